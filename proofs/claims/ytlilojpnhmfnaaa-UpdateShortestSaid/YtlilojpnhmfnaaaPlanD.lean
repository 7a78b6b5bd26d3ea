/- The planner: what holds in the loop of best. -/
import Derived.Test.YtlilojpnhmfnaaaPlanB
import Derived.Test.YtlilojpnhmfnaaaLoc
namespace Go.Proofs.Ytlilojpnhmfnaaa
open Go.RowKit

/-- X, and the blocks from lo to hi -/
def XL (X : Nat → Prop) (lo hi : Nat) : Nat → Prop := fun b => X b ∨ (lo ≤ b ∧ b ≤ hi)

def bestL (q : PP) (W : World) (a : Option Addr) (c kb : Nat) (s : List Int) : List (Addr × Value) :=
  [(⟨W.heap.size, 0, none⟩, .pointer (some ⟨q.bp, 0, none⟩)), (⟨W.heap.size + 1, 0, none⟩, .slice a q.n c),
    (⟨W.heap.size + 1 + 1, 0, none⟩, .int .i64 0), (⟨W.heap.size + 1 + 1, 1, none⟩, .int .i64 0), (⟨W.heap.size + 1 + 1, 2, none⟩, .slice none 0 0), (⟨W.heap.size + 1 + 1, 3, none⟩, .bool false),
    (⟨kb, 0, none⟩, .int .i64 (s[0]?.getD 0)), (⟨kb, 1, none⟩, .int .i64 (s[1]?.getD 0)), (⟨kb, 2, none⟩, .int .i64 (s[2]?.getD 0)), (⟨kb, 3, none⟩, .int .i64 (s[3]?.getD 0)), (⟨kb, 4, none⟩, .int .i64 (s[4]?.getD 0)), (⟨kb, 5, none⟩, .int .i64 (s[5]?.getD 0))]
def restL (b : Nat) (r : Rs) (a : Option Addr) (k c : Nat) : List (Addr × Value) :=
  [(⟨b, 0, none⟩, .int .i64 r.steps), (⟨b, 1, none⟩, .int .i64 r.time), (⟨b, 2, none⟩, .slice a k c), (⟨b, 3, none⟩, .bool r.is)]

def foldV (q : PP) (s : List Int) (done : List (List Int)) : Rs := done.foldl (bestStep q.f.times q.bu s (bestV q.f q.to q.bu)) Rs.no

structure BI (q : PP) (X : Nat → Prop) (W : World) (s : List Int) (a : Option Addr) (c kb b8 D : Nat) (done : List (List Int)) (w : World) : Prop where
  on : Only (fun b => b = q.m ∨ W.heap.size ≤ b) W w
  loc : LCells w (bestL q W a c kb s)
  memo : Memo w q.m (fun s v => s.length = q.n ∧ RestV (XL X W.heap.size (D + 4)) w v (bestV q.f q.to q.bu s))
  best : ∃ a' k' c', LCells w (restL b8 (foldV q s done) a' k' c') ∧ Ints w a' k' (foldV q s done).nxt ∧ ∀ ad, a' = some ad → D + 4 < ad.block ∧ Is3 w ad.block

theorem PInv.nocS {q : PP} {X : Nat → Prop} {W : World} (h : PInv q X W) : NoCells (fun b => b = q.m ∨ W.heap.size ≤ b) W := by
  intro b cs t fr hs hb
  rcases hs with hs | hs
  · exact h.noc b cs t fr hs hb
  · have := (Array.getElem?_eq_some_iff.1 hb).1; omega

theorem BI.inv {q : PP} {X : Nat → Prop} {W w : World} {s : List Int} {a : Option Addr} {c kb b8 D : Nat} {done : List (List Int)} (h : BI q X W s a c kb b8 D done w) (hI : PInv q X W) : PInv q (XL X W.heap.size (D + 4)) w :=
  ⟨h.on.cellN hI.nocS hI.c0, h.on.cellN hI.nocS hI.c1, h.on.cellN hI.nocS hI.c2, h.on.cellN hI.nocS hI.c3, h.on.cellN hI.nocS hI.c4, hI.fl.only h.on hI.nocS, hI.ito.only h.on hI.nocS, h.memo⟩

theorem bestL_blocks {q : PP} {W : World} {a : Option Addr} {c kb : Nat} {s : List Int} : ∀ p ∈ bestL q W a c kb s, p.1.block = W.heap.size ∨ p.1.block = W.heap.size + 1 ∨ p.1.block = W.heap.size + 1 + 1 ∨ p.1.block = kb := by
  intro p hp
  simp only [bestL, List.mem_cons, List.not_mem_nil, or_false] at hp
  rcases hp with rfl | rfl | rfl | rfl | rfl | rfl | rfl | rfl | rfl | rfl | rfl | rfl <;> simp
theorem restL_blocks {b : Nat} {r : Rs} {a : Option Addr} {k c : Nat} : ∀ p ∈ restL b r a k c, p.1.block = b := by
  intro p hp
  simp only [restL, List.mem_cons, List.not_mem_nil, or_false] at hp
  rcases hp with rfl | rfl | rfl | rfl <;> rfl

theorem BKey.cells {q : PP} {X : Nat → Prop} {W w : World} {a : Option Addr} {c kb : Nat} {s : List Int} (h : BKey q X W w a c kb s) : LCells w (bestL q W a c kb s) := by
  intro p hp
  simp only [bestL, List.mem_cons, List.not_mem_nil, or_false] at hp
  rcases hp with rfl | rfl | rfl | rfl | rfl | rfl | rfl | rfl | rfl | rfl | rfl | rfl
  · exact ⟨h.loc.b2, h.loc.f2⟩
  · exact ⟨h.loc.b3, h.loc.f3⟩
  · exact ⟨h.loc.b40, h.loc.f40⟩
  · exact ⟨h.loc.b41, h.loc.f41⟩
  · exact ⟨h.loc.b42, h.loc.f42⟩
  · exact ⟨h.loc.b43, h.loc.f43⟩
  · exact ⟨h.k0, h.kf 0⟩
  · exact ⟨h.k1, h.kf 1⟩
  · exact ⟨h.k2, h.kf 2⟩
  · exact ⟨h.k3, h.kf 3⟩
  · exact ⟨h.k4, h.kf 4⟩
  · exact ⟨h.k5, h.kf 5⟩

/-- how the numbers of the blocks lie -/
structure BNum (q : PP) (W : World) (kb b8 D : Nat) : Prop where
  i1 : q.m < W.heap.size
  i2 : W.heap.size + 1 + 1 < kb
  i3 : kb < b8
  i4 : b8 < D

/-- the loop's own block, the iterator's buffer, and new blocks may turn -/
theorem BI.keep {q : PP} {X : Nat → Prop} {W w w' : World} {s : List Int} {a : Option Addr} {c kb b8 D : Nat} {done : List (List Int)} (h : BI q X W s a c kb b8 D done w) (hn : BNum q W kb b8 D) (g : Only (fun b => b = D + 1 ∨ b = D + 4) w w') : BI q X W s a c kb b8 D done w' := by
  have h1 := hn.i1
  have h2 := hn.i2
  have h3 := hn.i3
  have h4 := hn.i4
  refine ⟨h.on.trans (g.mono' (fun i e => .inr (by omega))), h.loc.only g (fun p hp => by have := bestL_blocks p hp; omega), ?_, ?_⟩
  · refine h.memo.mono (g.block _ h.memo.lt (by omega)) (fun s v hv => ⟨hv.1, hv.2.onlyX g (fun b e => .inr (by omega))⟩)
  · obtain ⟨a', k', c', hl, hi, had⟩ := h.best
    refine ⟨a', k', c', hl.only g (fun p hp => by have := restL_blocks p hp; omega), hi.onlyAt g (fun ad e => by have := (had ad e).1; omega), fun ad e => ?_⟩
    have := (had ad e).1
    exact ⟨this, (had ad e).2.only g (by omega)⟩
theorem BI.gr {q : PP} {X : Nat → Prop} {W w w' : World} {s : List Int} {a : Option Addr} {c kb b8 D : Nat} {done : List (List Int)} (h : BI q X W s a c kb b8 D done w) (hn : BNum q W kb b8 D) (g : Gr w w') : BI q X W s a c kb b8 D done w' := h.keep hn (g.only _)

/-- a call of best in a round -/
theorem BI.call {q : PP} {X : Nat → Prop} {W w w' : World} {s : List Int} {a : Option Addr} {c kb b8 D : Nat} {done : List (List Int)} (h : BI q X W s a c kb b8 D done w) (hI : PInv q X W) (g : Only (fun b => b = q.m) w w') (hI' : PInv q (XL X W.heap.size (D + 4)) w') : BI q X W s a c kb b8 D done w' := by
  have hn := (h.inv hI).noc
  refine ⟨h.on.trans (g.mono' (fun i e => .inl e)), h.loc.onlyN g hn, hI'.memo, ?_⟩
  obtain ⟨a', k', c', hl, hi, had⟩ := h.best
  exact ⟨a', k', c', hl.onlyN g hn, hi.only g hn, fun ad e => ⟨(had ad e).1, (had ad e).2.onlyN g hn⟩⟩

/-- best has turned -/
theorem BI.set {q : PP} {X : Nat → Prop} {W w w' : World} {s x : List Int} {a : Option Addr} {c kb b8 D : Nat} {done : List (List Int)} (h : BI q X W s a c kb b8 D done w) (hn : BNum q W kb b8 D) (g : Only (fun b => b = b8) w w')
    {a' : Option Addr} {k' c' : Nat} (hl : LCells w' (restL b8 (foldV q s (done ++ [x])) a' k' c')) (hi : Ints w' a' k' (foldV q s (done ++ [x])).nxt) (had : ∀ ad, a' = some ad → D + 4 < ad.block ∧ Is3 w' ad.block) : BI q X W s a c kb b8 D (done ++ [x]) w' := by
  have h1 := hn.i1
  have h2 := hn.i2
  have h3 := hn.i3
  have h4 := hn.i4
  exact ⟨h.on.trans (g.mono' (fun i e => .inr (by omega))), h.loc.only g (fun p hp => by have := bestL_blocks p hp; omega), h.memo.mono (g.block _ h.memo.lt (by omega)) (fun s v hv => ⟨hv.1, hv.2.onlyX g (fun b e => .inr (by omega))⟩), a', k', c', hl, hi, had⟩
theorem BI.same {q : PP} {X : Nat → Prop} {W w : World} {s x : List Int} {a : Option Addr} {c kb b8 D : Nat} {done : List (List Int)} (h : BI q X W s a c kb b8 D done w) (he : foldV q s (done ++ [x]) = foldV q s done) : BI q X W s a c kb b8 D (done ++ [x]) w := by
  refine ⟨h.on, h.loc, h.memo, ?_⟩
  rw [he]
  exact h.best
theorem BI.start {q : PP} {X : Nat → Prop} {W w : World} {s : List Int} {a : Option Addr} {c kb b8 D : Nat} (hI : PInv q X W) (hK : BKey q X W w a c kb s) (hl : LCells w (restL b8 Rs.no none 0 0)) : BI q X W s a c kb b8 D [] w := by
  refine ⟨hK.loc.gr.only _, hK.cells, ?_, none, 0, 0, hl, Ints.nil _, fun ad e => by cases e⟩
  have h1 := (hI.wide (X' := XL X W.heap.size (D + 4)) (fun b hb hx => by
    rcases hx with hx | hx
    · exact hx
    · omega)).gr hK.loc.gr
  exact h1.memo
/-- what the iterator reads -/
theorem PInv.base {q : PP} {X : Nat → Prop} {W : World} {a : Option Addr} {s : List Int} (H : PHyp q) (h : PInv q X W) (hs : Ints W a q.n s) (hst : StOk q.f s) : SBase W (fun b => b = q.m ∨ W.heap.size ≤ b) q.f q.ta q.tn q.ca q.cn a q.toa q.n s q.to :=
  ⟨H.ok, h.fl, hs, h.ito, h.nocS, fun b hb => .inr hb, by have := H.ok.n1; have := H.nt; omega, H.nt, fun c hc => (hst.ver c (by rw [← H.nt]; exact hc)).1, fun c hc => (H.sto.ver c (by rw [← H.nt]; exact hc)).2⟩
end Go.Proofs.Ytlilojpnhmfnaaa
