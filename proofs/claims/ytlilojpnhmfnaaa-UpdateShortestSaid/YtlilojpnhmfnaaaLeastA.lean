/- Least: plain words, and what its closure finds in memory. -/
import Derived.Test.YtlilojpnhmfnaaaPlanJ
namespace Go.Proofs.Ytlilojpnhmfnaaa
set_option linter.unusedVariables false
open Go.RowKit

def leastStep (T : List (List Int)) (s : List Int) (rec : List Int → Int) (best : Int) (s' : List Int) : Int :=
  if 0 < dur T s s' ∧ dur T s s' < best then min best (max (dur T s s') (rec s')) else best
def leastF (f : Fl) (to : List Int) : Nat → List Int → Int
  | 0, _ => 0
  | k + 1, s => if s = to then 0 else (enum f s to s.length []).foldl (leastStep f.times s (leastF f to k)) (dur f.times s to)
def leastV (f : Fl) (to s : List Int) : Int := leastF f to (gap s to) s

theorem leastStep_congr {T : List (List Int)} {s s' : List Int} {r r' : List Int → Int} (h : 0 < dur T s s' → r s' = r' s') (b : Int) : leastStep T s r b s' = leastStep T s r' b s' := by
  unfold leastStep
  by_cases hc : 0 < dur T s s' ∧ dur T s s' < b
  · rw [if_pos hc, if_pos hc, h hc.1]
  · rw [if_neg hc, if_neg hc]

theorem dur_self (T : List (List Int)) (s : List Int) : dur T s s = 0 := by
  unfold dur
  have : ∀ k, durTo T s s k = 0 := by
    intro k
    induction k with
    | zero => rfl
    | succ k ih => simp [durTo, ih]
  exact this _

theorem leastF_fuel {f : Fl} {to : List Int} : ∀ (k k' : Nat) (s : List Int), s.length = to.length → aboveV to s = true → gap s to ≤ k → gap s to ≤ k' → leastF f to k s = leastF f to k' s := by
  intro k
  induction k with
  | zero =>
    intro k' s hl ha h0 _
    have hs := above_gap_zero hl ha (by omega)
    cases k' <;> simp [leastF, hs]
  | succ k ih =>
    intro k' s hl ha h0 h1
    by_cases hs : s = to
    · cases k' <;> simp [leastF, hs]
    · cases k' with
      | zero => exact absurd (above_gap_zero hl ha (by omega)) hs
      | succ k' =>
        simp only [leastF, if_neg hs]
        refine foldl_congr _ _ (fun x hx b => leastStep_congr (fun hd => ?_) b)
        have hb := (enum_between hx).1
        have hne : s ≠ x := fun e => by subst e; rw [dur_self] at hd; omega
        have hlt := gap_lt (hl := hl) hb hne
        exact ih k' x (by rw [hb.len, hl]) (aboveV_true (n := to.length) rfl (fun j hj => hb.le j (by omega))) (by omega) (by omega)

theorem leastV_eq {f : Fl} {to s : List Int} (hl : s.length = to.length) (ha : aboveV to s = true) (hs : ¬ s = to) :
    leastV f to s = (enum f s to s.length []).foldl (leastStep f.times s (leastV f to)) (dur f.times s to) := by
  have : leastV f to s = leastF f to (gap s to + 1) s := leastF_fuel _ _ s hl ha (Nat.le_refl _) (by omega)
  rw [this]
  simp only [leastF, if_neg hs]
  refine foldl_congr _ _ (fun x hx b => leastStep_congr (fun hd => ?_) b)
  have hb := (enum_between hx).1
  have hne : s ≠ x := fun e => by subst e; rw [dur_self] at hd; omega
  have hlt := gap_lt (hl := hl) hb hne
  exact leastF_fuel _ _ x (by rw [hb.len, hl]) (aboveV_true (n := to.length) rfl (fun j hj => hb.le j (by omega))) (by omega) (Nat.le_refl _)
theorem leastV_end (f : Fl) (to : List Int) : leastV f to to = 0 := by unfold leastV; cases gap to to <;> simp [leastF]

theorem dur_bd {f : Fl} {s t : List Int} (hok : FlOk f) (hs : StOk f s) (ht : StOk f t) (ha : aboveV t s = true) : 0 ≤ dur f.times s t ∧ dur f.times s t ≤ 60000 := by
  have hab := aboveV_le ha
  have hdd := durTo_bd hok (fun c hc => (hs.ver c hc).1) ht (fun c hc => hab c (by rw [ht.len]; exact hc)) f.times.length (Nat.le_refl _)
  have := hok.n6
  unfold dur
  rw [ht.len]
  omega

/-- the data of Least's closure -/
structure LP where
  bto : Nat
  bl : Nat
  bf : Nat
  bb : Nat
  m : Nat
  ta : Option Addr
  tn : Nat
  tc : Nat
  ca : Option Addr
  cn : Nat
  cc : Nat
  toa : Option Addr
  toc : Nat
  n : Nat
  f : Fl
  to : List Int

structure LInv (q : LP) (W : World) : Prop where
  c0 : W.cell? ⟨q.bf, 0, none⟩ = some (.slice q.ta q.tn q.tc)
  c1 : W.cell? ⟨q.bf, 1, none⟩ = some (.slice q.ca q.cn q.cc)
  c2 : W.cell? ⟨q.bto, 0, none⟩ = some (.slice q.toa q.n q.toc)
  c3 : W.cell? ⟨q.bl, 0, none⟩ = some (.map (some q.m))
  c4 : W.cell? ⟨q.bb, 0, none⟩ = some (.func (.func 56) #[] #[.pointer (some ⟨q.bto, 0, none⟩), .pointer (some ⟨q.bl, 0, none⟩), .pointer (some ⟨q.bf, 0, none⟩), .pointer (some ⟨q.bb, 0, none⟩)])
  fl : FlAt W q.ta q.tn q.ca q.cn q.f
  ito : Ints W q.toa q.n q.to
  memo : Memo W q.m (fun s v => s.length = q.n ∧ v = .int .i64 (leastV q.f q.to s))

structure LHyp (q : LP) : Prop where
  ok : FlOk q.f
  sto : StOk q.f q.to
  nt : q.n = q.f.times.length

theorem LInv.noc {q : LP} {W : World} (h : LInv q W) : NoCells (fun b => b = q.m ∨ W.heap.size ≤ b) W := by
  obtain ⟨es, clk, hm, _, _⟩ := h.memo
  intro b cs t fr hs hb
  rcases hs with hs | hs
  · subst hs; rw [hm] at hb; cases hb
  · have := (Array.getElem?_eq_some_iff.1 hb).1; omega
theorem LInv.of {q : LP} {W W' : World} (h : LInv q W) (g : Only (fun b => b = q.m ∨ W.heap.size ≤ b) W W') (hm : Memo W' q.m (fun s v => s.length = q.n ∧ v = .int .i64 (leastV q.f q.to s))) : LInv q W' :=
  ⟨g.cellN h.noc h.c0, g.cellN h.noc h.c1, g.cellN h.noc h.c2, g.cellN h.noc h.c3, g.cellN h.noc h.c4, h.fl.only g h.noc, h.ito.only g h.noc, hm⟩
theorem LInv.gr {q : LP} {W W' : World} (h : LInv q W) (g : Gr W W') : LInv q W' := h.of (g.only _) (h.memo.mono (g.below.block _ h.memo.lt) (fun _ _ hv => hv))

def LPost (q : LP) (W : World) (s : List Int) (e : Ending) (W' : World) : Prop := e = .returned (.int .i64 (leastV q.f q.to s)) ∧ LInv q W' ∧ Only (fun b => b = q.m) W W'

theorem LInv.base {q : LP} {W : World} {a : Option Addr} {s : List Int} (H : LHyp q) (h : LInv q W) (hs : Ints W a q.n s) (hst : StOk q.f s) : SBase W (fun b => b = q.m ∨ W.heap.size ≤ b) q.f q.ta q.tn q.ca q.cn a q.toa q.n s q.to :=
  ⟨H.ok, h.fl, hs, h.ito, h.noc, fun b hb => .inr hb, by have := H.ok.n1; have := H.nt; omega, H.nt, fun c hc => (hst.ver c (by rw [← H.nt]; exact hc)).1, fun c hc => (H.sto.ver c (by rw [← H.nt]; exact hc)).2⟩

theorem Try.zero3 (w : World) : (zeroValue 3).run Try.prog w = .ok (.int .i64 0) w := by kernel_rfl

/-- what a lookup in the memo gives -/
theorem least_lookup {q : LP} (H : LHyp q) {s : List Int} {w : World} (hI : LInv q w) (hst : StOk q.f s) (hl : s.length = q.n) :
    ∃ (v : Int) (b : Bool), (∀ W : World, W.heap[q.m]? = w.heap[q.m]? → (Instr.lookup 86 (.map (some q.m)) (.agg #[.int .i64 (s[0]?.getD 0), .int .i64 (s[1]?.getD 0), .int .i64 (s[2]?.getD 0), .int .i64 (s[3]?.getD 0), .int .i64 (s[4]?.getD 0), .int .i64 (s[5]?.getD 0)]) true).run Try.prog W = .ok (.tuple #[.int .i64 v, .bool b]) W) ∧
      (b = true → v = leastV q.f q.to s) := by
  obtain ⟨es, clk, hb, hall, hpw⟩ := hI.memo
  have hsm := hst.small H.ok
  obtain ⟨l, hlk⟩ := keyOf_keyV hsm
  have K := Try.akey.law
  have hkeys : ∀ e ∈ es.toList, ∃ l, keyOf Try.prog 89 e.key = some l := fun e he => by obtain ⟨s', h1, h2, _⟩ := hall e he; rw [h1]; exact keyOf_keyV h2
  rcases K.find w hlk es.toList hkeys with ⟨h1, h2⟩ | ⟨j, e0, h1, h2, h3⟩
  · refine ⟨0, false, fun W hW => ?_, fun h => by cases h⟩
    rcases K.find W hlk es.toList hkeys with ⟨h1', h2'⟩ | ⟨j', e0', h1', h2', h3'⟩
    · have hbW := hW.trans hb
      show (Instr.lookup 86 (.map (some q.m)) (keyV s) true).run Try.prog W = _
      simp [Instr.lookup, run_underlying Try.underlying86, MapKept.run_getObj_map hbW, K.check W _ hlk, h1']
    · exact absurd h3' (h2 e0' (List.mem_of_getElem? h2'))
  · have hm0 : e0 ∈ es.toList := List.mem_of_getElem? h2
    obtain ⟨s', k1, k2, k3, k4⟩ := hall e0 hm0
    have hss : s' = s := keyV_inj (by rw [k3, hl]) (by rw [k3, H.nt]; exact H.ok.n6) (by rw [← k1, h3])
    subst hss
    refine ⟨_, true, fun W hW => ?_, fun _ => rfl⟩
    rcases K.find W hlk es.toList hkeys with ⟨h1', h2'⟩ | ⟨j', e0', h1', h2', h3'⟩
    · exact absurd h3 (h2' e0 hm0)
    · have hm0' : e0' ∈ es.toList := List.mem_of_getElem? h2'
      have hbW := hW.trans hb
      show (Instr.lookup 86 (.map (some q.m)) (keyV s') true).run Try.prog W = _
      simp [Instr.lookup, run_underlying Try.underlying86, MapKept.run_getObj_map hbW, K.check W _ hlk, h1', Result.andThen]
      rw [pairwise_same hpw hm0' hm0 (by rw [h3', h3]), k4]

def leastL (q : LP) (W : World) (a : Option Addr) (c kb : Nat) (s : List Int) : List (Addr × Value) :=
  [(⟨W.heap.size, 0, none⟩, .slice a q.n c), (⟨kb, 0, none⟩, .int .i64 (s[0]?.getD 0)), (⟨kb, 1, none⟩, .int .i64 (s[1]?.getD 0)), (⟨kb, 2, none⟩, .int .i64 (s[2]?.getD 0)), (⟨kb, 3, none⟩, .int .i64 (s[3]?.getD 0)), (⟨kb, 4, none⟩, .int .i64 (s[4]?.getD 0)), (⟨kb, 5, none⟩, .int .i64 (s[5]?.getD 0))]
theorem leastL_blocks {q : LP} {W : World} {a : Option Addr} {c kb : Nat} {s : List Int} : ∀ p ∈ leastL q W a c kb s, p.1.block = W.heap.size ∨ p.1.block = kb := by
  intro p hp
  simp only [leastL, List.mem_cons, List.not_mem_nil, or_false] at hp
  rcases hp with rfl | rfl | rfl | rfl | rfl | rfl | rfl <;> simp

def foldLe (q : LP) (s : List Int) (done : List (List Int)) : Int := done.foldl (leastStep q.f.times s (leastV q.f q.to)) (dur q.f.times s q.to)

/-- what holds in the loop -/
structure LI (q : LP) (W : World) (s : List Int) (a : Option Addr) (c kb bx : Nat) (done : List (List Int)) (w : World) : Prop where
  on : Only (fun b => b = q.m ∨ W.heap.size ≤ b) W w
  loc : LCells w (leastL q W a c kb s)
  memo : Memo w q.m (fun s v => s.length = q.n ∧ v = .int .i64 (leastV q.f q.to s))
  best : LCells w [(⟨bx, 0, none⟩, .int .i64 (foldLe q s done))]

structure LNum (q : LP) (W : World) (kb bx D : Nat) : Prop where
  i1 : q.m < W.heap.size
  i2 : W.heap.size < kb
  i3 : kb < bx
  i4 : bx < D

theorem LI.inv {q : LP} {W w : World} {s : List Int} {a : Option Addr} {c kb bx : Nat} {done : List (List Int)} (h : LI q W s a c kb bx done w) (hI : LInv q W) : LInv q w := hI.of h.on h.memo
theorem LI.keep {q : LP} {W w w' : World} {s : List Int} {a : Option Addr} {c kb bx D : Nat} {done : List (List Int)} (h : LI q W s a c kb bx done w) (hn : LNum q W kb bx D) (g : Only (fun b => b = D + 1 ∨ b = D + 4) w w') : LI q W s a c kb bx done w' := by
  have h1 := hn.i1
  have h2 := hn.i2
  have h3 := hn.i3
  have h4 := hn.i4
  exact ⟨h.on.trans (g.mono' (fun i e => .inr (by omega))), h.loc.only g (fun p hp => by have := leastL_blocks p hp; omega), h.memo.mono (g.block _ h.memo.lt (by omega)) (fun _ _ hv => hv), h.best.only g (fun p hp => by simp at hp; subst hp; simp only; omega)⟩
theorem LI.gr {q : LP} {W w w' : World} {s : List Int} {a : Option Addr} {c kb bx D : Nat} {done : List (List Int)} (h : LI q W s a c kb bx done w) (hn : LNum q W kb bx D) (g : Gr w w') : LI q W s a c kb bx done w' := h.keep hn (g.only _)
theorem LI.call {q : LP} {W w w' : World} {s : List Int} {a : Option Addr} {c kb bx : Nat} {done : List (List Int)} (h : LI q W s a c kb bx done w) (hI : LInv q W) (g : Only (fun b => b = q.m) w w') (hI' : LInv q w') : LI q W s a c kb bx done w' := by
  have hn : NoCells (fun b => b = q.m) w := by
    obtain ⟨es, clk, hm, _, _⟩ := h.memo
    intro b cs t fr hs hb
    subst hs; rw [hm] at hb; cases hb
  exact ⟨h.on.trans (g.mono' (fun i e => .inl e)), h.loc.onlyN g hn, hI'.memo, h.best.onlyN g hn⟩
theorem LI.set {q : LP} {W w : World} {s x : List Int} {a : Option Addr} {c kb bx D : Nat} {done : List (List Int)} (h : LI q W s a c kb bx done w) (hn : LNum q W kb bx D) {v : Int} (hv : foldLe q s (done ++ [x]) = v) : LI q W s a c kb bx (done ++ [x]) (w.setCell ⟨bx, 0, none⟩ (.int .i64 v)) := by
  have g : Only (fun b => b = bx) w (w.setCell ⟨bx, 0, none⟩ (.int .i64 v)) := Only.setCell (S := fun b => b = bx) (Only.refl _ _) (p := ⟨bx, 0, none⟩) (.inl rfl) _
  have h1 := hn.i1
  have h2 := hn.i2
  have h3 := hn.i3
  refine ⟨h.on.trans (g.mono' (fun i e => .inr (by omega))), h.loc.only g (fun p hp => by have := leastL_blocks p hp; omega), h.memo.mono (g.block _ h.memo.lt (by omega)) (fun _ _ hv => hv), fun p hp => ?_⟩
  simp at hp
  subst hp
  rw [hv]
  have hb := h.best.at 0 rfl
  have hf := h.best.fr 0 rfl
  simp only at hb hf
  exact ⟨by simp [go_sem, hb], by simpa using hf⟩
theorem LI.same {q : LP} {W w : World} {s x : List Int} {a : Option Addr} {c kb bx : Nat} {done : List (List Int)} (h : LI q W s a c kb bx done w) (he : foldLe q s (done ++ [x]) = foldLe q s done) : LI q W s a c kb bx (done ++ [x]) w := by
  refine ⟨h.on, h.loc, h.memo, ?_⟩
  rw [he]
  exact h.best
end Go.Proofs.Ytlilojpnhmfnaaa
