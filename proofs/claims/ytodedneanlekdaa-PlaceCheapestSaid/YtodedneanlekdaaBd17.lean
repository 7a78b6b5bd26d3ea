/- Several texts of this claim in one file. (1) The leaves as the search gathers them in memory. Nothing of the program is proved here. (2) The leaves as the reference gathers them: a slice that is passed on. Nothing of the program is proved here. (3) Contract: the law about Check. (4) Contract: copied. (5) Contract: the law about Proves. (6) Contract: Prove. -/
import Derived.Test.YtodedneanlekdaaBd14
import Derived.Test.YtodedneanlekdaaBd15
import Derived.Test.YtodedneanlekdaaBd5
import Derived.Test.YtodedneanlekdaaBd16
import Derived.Test.YtodedneanlekdaaBd3
import Derived.Test.YtodedneanlekdaaBd9
namespace Go.Proofs.Ytodedneanlekdaa
set_option linter.unusedSimpArgs false
set_option linter.unusedVariables false
section
set_option linter.unusedVariables false
open Go.RowKit
theorem Try.new31 (w : World) : (Instr.alloc 31 true (.tuple #[])).run Try.prog w = .ok (.pointer (some ⟨w.heap.size, 0, none⟩)) (w.alloc (.cells #[.int .i64 0] 31)) := by kernel_rfl
theorem Try.agg31 (w : World) : (isAgg 31).run Try.prog w = .ok false w := by kernel_rfl
theorem Try.siz31 (w : World) : (sizeOf 31).run Try.prog w = .ok 1 w := by kernel_rfl
theorem Try.bd49 (a : Option Addr) (n c : Nat) (y : Int) (w : World) : (Instr.build 49 #[(0, .slice a n c), (1, .int .i64 y)]).run Try.prog w = .ok (.agg #[.slice a n c, .int .i64 y]) w := by kernel_rfl
theorem Try.bs45_1 (a : Option Addr) (n c : Nat) (y : Int) (w : World) : (Instr.buildSlice 45 1 #[(0, .agg #[.slice a n c, .int .i64 y])]).run Try.prog w = .ok (.slice (some ⟨w.heap.size, 0, none⟩) 1 1) (w.alloc (.cells #[.slice a n c, .int .i64 y] 49)) := by kernel_rfl
theorem Y.rcc2 {P : Program} {A : Act} {n : Nat} {L : List (Nat × Value)} {D : List Deferred} {W : World} {fn : Func} {s t : Nat} {ty ty2 : TypeId} {p q : Addr} {v x : Value} (F : Fr A n L D) (hr : fn.results = #[.cell s ty, .cell t ty2]) (hA : (isAgg ty).run P W = .ok false W) (hB : (isAgg ty2).run P W = .ok false W)
    (hp : lookS L s = some (.pointer (some p))) (hq : lookS L t = some (.pointer (some q))) (hv : W.cell? p = some v) (hx : W.cell? q = some x) : (results fn A.tmps).run P W = .ok (.tuple #[v, x]) W := by
  have e := F.look hp
  have e2 := F.look hq
  simp [results, hr, e, e2, go_sem, Instr.loadAt, loadVar, Instr.sureAddr, hA, hB, hv, hx]
theorem ownP_1 {W : World} {b : Nat} {t : TypeId} {v : Value} (h : W.heap[b]? = some (.cells #[v] t)) : OwnP W b 1 (fun _ => v) := (ownP_bx (vs := [v]) h).congr (fun k hk => by
  have hk1 : k < 1 := hk
  obtain rfl : k = 0 := by omega
  rfl)
def PrvO (ob r2 r3 : Nat) (v : Value) (b : Nat) : Prop := b = ob ∨ b = r2 ∨ b = r3 ∨ v.ownBlock = some b
def PrvP (E : List LfE) (b : Nat) : Prop := ∃ x ∈ E, ∃ ad, x.b.a = some ad ∧ ad.block = b
/-- the cell with the leaves, the cells of the results, the leaves -/
structure PrvAt (W : World) (ob r2 r3 B : Nat) (v : Value) (E : List LfE) : Prop where
  o : OwnP W ob 1 (fun _ => v)
  c2 : OwnP W r2 1 (fun _ => .slice none 0 0)
  c3 : OwnP W r3 1 (fun _ => .int .i64 0)
  r : OwnR W B 49 2 v E.length (lfsV E)
  b : ∀ x ∈ E, BegAt W B x.b.a x.b.c x.b.xs
  n : ∀ x ∈ E, ∀ ad, x.b.a = some ad → v.ownBlock ≠ some ad.block
  lt : ob < B ∧ r2 < B ∧ r3 < B
  ne : ob ≠ r2 ∧ ob ≠ r3 ∧ r2 ≠ r3
  BW : B ≤ W.heap.size
section
variable {W W' : World} {ob r2 r3 B : Nat} {v : Value} {E : List LfE}
theorem PrvAt.gr (h : PrvAt W ob r2 r3 B v E) (g : Gr W W') : PrvAt W' ob r2 r3 B v E :=
  ⟨h.o.gr g, h.c2.gr g, h.c3.gr g, h.r.gr g, fun x hx => (h.b x hx).gr g, h.n, h.lt, h.ne, Nat.le_trans h.BW g.size⟩
theorem PrvAt.only {S : Nat → Prop} (h : PrvAt W ob r2 r3 B v E) (g : Only S W W') (h1 : ∀ b, PrvO ob r2 r3 v b → ¬ S b) (h2 : ∀ b, PrvP E b → ¬ S b) : PrvAt W' ob r2 r3 B v E :=
  ⟨h.o.only g (h1 _ (.inl rfl)), h.c2.only g (h1 _ (.inr (.inl rfl))), h.c3.only g (h1 _ (.inr (.inr (.inl rfl)))), h.r.only g (fun b e => h1 b (.inr (.inr (.inr e)))), fun x hx => (h.b x hx).only g (fun ad e => h2 _ ⟨x, hx, ad, e, rfl⟩), h.n, h.lt, h.ne, Nat.le_trans h.BW g.size⟩
theorem PrvAt.olt (h : PrvAt W ob r2 r3 B v E) : ∀ b, PrvO ob r2 r3 v b ∨ PrvP E b → b < W.heap.size := by
  rintro b ((rfl | rfl | rfl | e) | ⟨x, hx, ad, e, rfl⟩)
  · exact h.o.lt
  · exact h.c2.lt
  · exact h.c3.lt
  · exact (h.r.ge e).2
  · exact ((h.b x hx).ge ad e).2
/-- one more leaf: the row has grown, the cell is not stored yet -/
theorem PrvAt.push {v2 : Value} {x : LfE} (h : PrvAt W ob r2 r3 B v E) (hb : BegAt W B x.b.a x.b.c x.b.xs) (hn : ∀ ad, x.b.a = some ad → v.ownBlock ≠ some ad.block) (hO : OwnR W' B 49 2 v2 (E.length + 1) (lfsV E ++ [.slice x.b.a x.b.xs.length x.b.c, .int .i64 x.why]))
    (hon : Only (fun b => v.ownBlock = some b) W W') (hat : v2.ownBlock = v.ownBlock ∨ v2.ownBlock = some W.heap.size) : PrvAt (W'.setCell ⟨ob, 0, none⟩ v2) ob r2 r3 B v2 (E ++ [x]) := by
  have hs := Y.set_only W' ob 0 v2
  obtain ⟨l1, l2, l3⟩ := h.lt
  obtain ⟨n1, n2, n3⟩ := h.ne
  have hv : ∀ b, v.ownBlock = some b → B ≤ b := fun b e => (h.r.ge e).1
  have hv2 : ∀ b, v2.ownBlock = some b → B ≤ b := fun b e => (hO.ge e).1
  have hx : ∀ y ∈ E ++ [x], BegAt W B y.b.a y.b.c y.b.xs ∧ ∀ ad, y.b.a = some ad → v.ownBlock ≠ some ad.block := fun y hy => by
    rcases List.mem_append.1 hy with hy | hy
    · exact ⟨h.b y hy, h.n y hy⟩
    · simp at hy; subst hy; exact ⟨hb, hn⟩
  refine ⟨((h.o.only hon (fun e => by have := hv _ e; omega)).set v2).congr (fun k hk => if_pos (by omega)), (h.c2.only hon (fun e => by have := hv _ e; omega)).only hs (fun e => n1 e.symm), (h.c3.only hon (fun e => by have := hv _ e; omega)).only hs (fun e => n2 e.symm), ?_, fun y hy => ?_, fun y hy ad e => ?_, h.lt, h.ne, Nat.le_trans h.BW (Nat.le_trans hon.size hs.size)⟩
  · have hO2 := hO.only hs (fun b e e2 => by have := hv2 b e; omega)
    rw [List.length_append, lfs_app]
    exact hO2
  · refine ((hx y hy).1.only hon (fun ad e k => (hx y hy).2 ad e k)).only hs (fun ad e k => ?_)
    have := ((hx y hy).1.ge ad e).1; omega
  · intro k
    rcases hat with h3 | h3
    · rw [h3] at k; exact (hx y hy).2 ad e k
    · rw [h3] at k; injection k with k
      have := ((hx y hy).1.ge ad e).2; omega
end
/-- what holds between two rounds -/
def PrvK (ob r2 r3 B : Nat) (s : List (List Int × Int)) (O Kp : Nat → Prop) (W : World) : Prop :=
  ∃ v E, stripL E = s ∧ PrvAt W ob r2 r3 B v E ∧ O = PrvO ob r2 r3 v ∧ Kp = PrvP E ∧ E.length ≤ 5000 ∧ (∀ b, Kp b → B + 2 ≤ b)
section
variable {W W' : World} {ob r2 r3 B : Nat} {s : List (List Int × Int)} {O Kp : Nat → Prop}
theorem PrvK.lt (h : PrvK ob r2 r3 B s O Kp W) : ∀ b, O b ∨ Kp b → b < W.heap.size := by
  obtain ⟨v, E, hs, hR, rfl, rfl, hm, hl⟩ := h
  exact hR.olt
theorem PrvK.gr (h : PrvK ob r2 r3 B s O Kp W) (g : Gr W W') : PrvK ob r2 r3 B s O Kp W' := by
  obtain ⟨v, E, hs, hR, h1, h2, hm, hl⟩ := h
  exact ⟨v, E, hs, hR.gr g, h1, h2, hm, hl⟩
theorem PrvK.only {Yb : Nat → Prop} (h : PrvK ob r2 r3 B s O Kp W) (hY : ∀ b, Yb b → b < B) (hO : ∀ b, O b → Yb b ∨ B + 2 ≤ b) (g : Only (fun b => b = B + 1) W W') : PrvK ob r2 r3 B s O Kp W' := by
  obtain ⟨v, E, hs, hR, h1, h2, hm, hl⟩ := h
  refine ⟨v, E, hs, hR.only g (fun b hb e => ?_) (fun b hb e => ?_), h1, h2, hm, hl⟩
  · rcases hO b (h1 ▸ hb) with k | k
    · have := hY b k; omega
    · omega
  · have := hl b (h2 ▸ hb); omega
theorem PrvK.start (h1 : OwnP W ob 1 (fun _ => .slice none 0 0)) (h2 : OwnP W r2 1 (fun _ => .slice none 0 0)) (h3 : OwnP W r3 1 (fun _ => .int .i64 0)) (ne : ob ≠ r2 ∧ ob ≠ r3 ∧ r2 ≠ r3) : PrvK ob r2 r3 W.heap.size [] (fun b => b = ob ∨ b = r2 ∨ b = r3) (fun _ => False) W :=
  ⟨.slice none 0 0, [], rfl, ⟨h1, h2, h3, OwnR.nil _ _ _ _, fun x hx => (by cases hx), fun x hx => (by cases hx), ⟨h1.lt, h2.lt, h3.lt⟩, ne, Nat.le_refl _⟩, by
    funext b; simp [PrvO, Value.ownBlock], by
    funext b; simp [PrvP], Nat.zero_le _, fun b e => e.elim⟩
end
theorem dear_1 {p : Pb} {xs : List Int} (h : (bestR p).2.2 = 0) (k : (bestR p).2.1 ≤ bndV p xs) : dearP p xs = true := by unfold dearP; rw [decide_eq_true h, decide_eq_true k]; rfl
theorem dear_2 {p : Pb} {xs : List Int} (h : ¬ (bestR p).2.2 = 0) : dearP p xs = false := by unfold dearP; rw [decide_eq_false h]; rfl
theorem dear_3 {p : Pb} {xs : List Int} (k : ¬ (bestR p).2.1 ≤ bndV p xs) : dearP p xs = false := by unfold dearP; rw [decide_eq_false k, Bool.and_false]
end
section
set_option linter.unusedVariables false
open Go.RowKit
/-- leaves in a slice of the call's own -/
structure LvAt (W : World) (B : Nat) (v : Value) (E : List LfE) : Prop where
  o : OwnR W B 49 2 v E.length (lfsV E)
  i : ∀ x ∈ E, Ints W x.b.a x.b.xs.length x.b.xs ∧ x.b.xs.length ≤ x.b.c
  n : ∀ x ∈ E, ∀ ad, x.b.a = some ad → v.ownBlock ≠ some ad.block ∧ ad.block < W.heap.size
section
variable {W W' : World} {B : Nat} {v : Value} {E : List LfE}
theorem LvAt.gr (h : LvAt W B v E) (g : Gr W W') : LvAt W' B v E :=
  ⟨h.o.gr g, fun x hx => ⟨(h.i x hx).1.gr g, (h.i x hx).2⟩, fun x hx ad e => ⟨(h.n x hx ad e).1, Nat.lt_of_lt_of_le (h.n x hx ad e).2 g.size⟩⟩
theorem LvAt.nil (W : World) (B : Nat) : LvAt W B (.slice none 0 0) [] := ⟨OwnR.nil _ _ _ _, fun x hx => (by simp at hx), fun x hx => (by simp at hx)⟩
theorem LvAt.lf {a : Option Addr} {c : Nat} (h : LvAt W B (.slice a E.length c) E) : LfAt W a E := lf_own h.o h.i
/-- where a slice is behind an append -/
def Moved (W : World) (v v2 : Value) : Prop := v2.ownBlock = v.ownBlock ∨ ∃ b, v2.ownBlock = some b ∧ W.heap.size ≤ b
theorem Moved.of {v v2 : Value} {b : Nat} (h : Moved W v v2) (e : v2.ownBlock = some b) : v.ownBlock = some b ∨ W.heap.size ≤ b := by
  rcases h with h | ⟨c, h1, h2⟩
  · exact .inl (h ▸ e)
  · rw [h1] at e; injection e with e; subst e; exact .inr h2
theorem Moved.ne {v v2 : Value} {b : Nat} (h : Moved W v v2) (k : v.ownBlock ≠ some b) (hb : b < W.heap.size) : v2.ownBlock ≠ some b := fun e => by
  rcases h.of e with h | h
  · exact k h
  · omega
/-- one more leaf -/
theorem LvAt.push {v2 : Value} {x : LfE} (h : LvAt W B v E) (hi : Ints W x.b.a x.b.xs.length x.b.xs ∧ x.b.xs.length ≤ x.b.c) (hn : ∀ ad, x.b.a = some ad → ad.block < W.heap.size ∧ v.ownBlock ≠ some ad.block) (hO : OwnR W' B 49 2 v2 (E.length + 1) (lfsV E ++ [.slice x.b.a x.b.xs.length x.b.c, .int .i64 x.why]))
    (hon : Only (fun b => v.ownBlock = some b) W W') (hat : v2.ownBlock = v.ownBlock ∨ v2.ownBlock = some W.heap.size) : LvAt W' B v2 (E ++ [x]) ∧ Moved W v v2 := by
  have hx : ∀ y ∈ E ++ [x], (Ints W y.b.a y.b.xs.length y.b.xs ∧ y.b.xs.length ≤ y.b.c) ∧ ∀ ad, y.b.a = some ad → v.ownBlock ≠ some ad.block ∧ ad.block < W.heap.size := fun y hy => by
    rcases List.mem_append.1 hy with hy | hy
    · exact ⟨h.i y hy, h.n y hy⟩
    · simp at hy; subst hy; exact ⟨hi, fun ad e => ⟨(hn ad e).2, (hn ad e).1⟩⟩
  have hM : Moved W v v2 := hat.imp (fun h => h) (fun h => ⟨_, h, Nat.le_refl _⟩)
  refine ⟨⟨by rw [List.length_append, lfs_app]; exact hO, fun y hy => ⟨(hx y hy).1.1.onlyAt hon (fun ad e => ((hx y hy).2 ad e).1), (hx y hy).1.2⟩, fun y hy ad e => ?_⟩, hM⟩
  obtain ⟨k1, k2⟩ := (hx y hy).2 ad e
  exact ⟨hM.ne k1 k2, Nat.lt_of_lt_of_le k2 hon.size⟩
end
end
section
open Go.RowKit

theorem OwnR.intsS {W : World} {B c : Nat} {a : Option Addr} {xs : List Int} (h : OwnR W B 3 1 (.slice a xs.length c) xs.length (xs.map (Value.int .i64))) (hl : xs.length < 1152921504606846976) : Ints W a xs.length xs := by
  obtain ⟨a', c', e, h'⟩ := h.ints hl
  injection e with e
  subst e; exact h'
theorem large_far {p : Pb} (h : largeB p = false) : farB p = false := by
  cases e : farB p with
  | false => rfl
  | true => unfold largeB at h; rw [e] at h; cases h
theorem large_sz {p : Pb} (h : largeB p = false) : SmlP p := far_sz (large_far h)
theorem large_pl {p : Pb} (h : largeB p = false) : chkE p = 0 → p.nt ≤ 5 ∧ p.nh ≤ 4 := fun hc => by
  simp [largeB, hc] at h
  omega
end
section
open Go.RowKit

set_option maxRecDepth 100000 in
set_option maxHeartbeats 4000000 in
theorem copied_any (la9 : Option Addr) (lc9 : Nat) (E : List LfE) (w : World) (hL : LfAt w la9 E) (hE : E.length ≤ 5000) (hx30 : ∀ x ∈ E, x.b.xs.length ≤ 30) :
  Calls Try.prog 49 #[.slice la9 E.length lc9] w fun e w' => ∃ a c E2, e = .returned (.slice a (List.length E2) c) ∧ LfAt w' a E2 ∧ stripL E2 = stripL E ∧ Gr w w' := by
 have G := Gr.refl w
 have hl := hL
 refine Y.calls 27 Try.func49 rfl rfl ?_
 intro ac F0
 have F : Fr ac 27 [(0, .slice la9 E.length lc9)] := F0.sub _
 clear F0
 refine Y.sg F [(0, .slice la9 E.length lc9)] (Y.pv F (X.assign rfl (X.kc (.slice none 0 0) rfl)) fun ac F=>Y.fin F) ?_;clear F ac;intro ac F
 refine Y.sg F [(0, .slice la9 E.length lc9), (3, .slice none 0 0)] (Y.pv F (X.assign rfl (X.kc (.slice none 0 0) rfl)) fun ac F=>Y.fin F) ?_;clear F ac;intro ac F
 refine Y.seq ?_
 refine Y.sg F [(0, .slice la9 E.length lc9), (3, .slice none 0 0), (4, Vi 0)] (Y.pv F (X.assign rfl (X.kc (Vi 0) rfl)) fun ac F=>Y.fin F) ?_;clear F ac;intro ac F
 refine Y.block ?_
 have hW1 : w.heap.size ≤ w.heap.size := G.size
 refine Y.loop (fun me_ ac wr => ∃ (i : Nat) (E2 : List LfE) (oa : Option Addr) (oc : Nat), me_ = E.length - i ∧ Only (fun b => False) w wr ∧ i ≤ E.length ∧ LvAt wr w.heap.size (.slice oa E2.length oc) E2 ∧ stripL E2 = stripL (E.take i) ∧ Fr ac 27 [(0, .slice la9 E.length lc9), (3, .slice oa E2.length oc), (4, Vi i)]) _ ⟨0, [], none, 0, rfl, Only.refl _ _, Nat.zero_le _, LvAt.nil _ _, rfl, F.sub _⟩ ?_
 have hlB1 := hl
 have GB1 := G
 clear F ac
 intro me_ ac w3 hI
 obtain ⟨i, E2, oa, oc, rfl, hO1, hi, hLv, hst, F⟩ := hI
 replace G := GB1.trans (hO1.gr (fun _ _ h => h))
 replace hl := (hL).gr G
 have hl2 : E2.length = i := by have h9 := congrArg List.length hst; rw [stripL_len, stripL_len, List.length_take] at h9; omega
 refine Y.seq ?_
 refine Y.sg F [(0, .slice la9 E.length lc9), (3, .slice oa E2.length oc), (4, Vi i), (8, .bool (decide ((i : Int) < E.length)))] (Y.pv F (X.move rfl (F.ev 4 (Vi i))) fun ac F=>Y.pv F (X.move rfl (F.ev 0 (.slice la9 E.length lc9))) fun ac F=>Y.pv F (X.len1 Try.underlying45 rfl (F.ev 6 (.slice la9 E.length lc9))) fun ac F=>Y.pv F (X.binop rfl (F.ev 5 (Vi i)) (F.ev 7 (Vi E.length)) (X.lssI Try.underlying3 rfl)) fun ac F=>Y.fin F) ?_;clear F ac;intro ac F
 cases h4 : decide ((i : Int) < E.length) with
 | false =>
  try rw [h4] at F
  have h4p : ¬ ((i : Int) < E.length) := of_decide_eq_false h4
  obtain rfl : i = E.length := by omega
  rw [List.take_length] at hst
  refine Y.condF (F.ev 8 (.bool false)) ?_
  refine Y.exit ?_
  refine X.thenX (X.thenX (X.blockX (X.thenN ?_)))
  refine Y.sg F [(2, .slice oa E2.length oc)] (Y.pv F (X.move rfl (F.ev 3 (.slice oa E2.length oc))) fun ac F=>Y.pv F (X.assign rfl (F.ev 26 (.slice oa E2.length oc))) fun ac F=>Y.fin F) ?_;clear F ac;intro ac F
  refine Y.ret ?_
  exact Y.ret0 (v := .slice oa E2.length oc) F (Y.r1 F) ⟨oa, oc, E2, rfl, hLv.lf, hst, G⟩
 | true =>
  try rw [h4] at F
  have h4p : ((i : Int) < E.length) := of_decide_eq_true h4
  refine Y.condT (F.ev 8 (.bool true)) ?_
  refine Y.skip ?_
  refine X.thenN ?_
  refine Y.seq ?_
  refine Y.block ?_
  obtain ⟨xf, hxxf⟩ : ∃ x, E[i]? = some x := ⟨_, List.getElem?_eq_getElem (by omega)⟩
  have hx3 := hx30 xf (List.mem_of_getElem? hxxf)
  obtain ⟨pd5, pe5, pc5, pw5, pI5, pl5⟩ := hl i xf hxxf
  subst pe5
  have hC : RCells w3 [(pd5.add (i * 2), .slice xf.b.a xf.b.xs.length xf.b.c), (⟨(pd5.add (i * 2)).block, (pd5.add (i * 2)).off + 1, none⟩, Vi xf.why)] := (RCells.cons pc5 (RCells.cons pw5 (RCells.nil _)))
  clear pc5
  obtain ⟨Tp, hTp⟩ : ∃ T : Nat → Value → World → Prop, T = fun i v W => ∃ xa6 xc6, (i = 6 ∧ v = .slice xa6 xf.b.xs.length xc6 ∧ OwnR W w3.heap.size 3 1 (.slice xa6 xf.b.xs.length xc6) xf.b.xs.length (xf.b.xs.map (Value.int .i64))) ∨ (i = 12 ∧ v = .agg #[.slice xa6 xf.b.xs.length xc6, Vi xf.why] ∧ OwnR W w3.heap.size 3 1 (.slice xa6 xf.b.xs.length xc6) xf.b.xs.length (xf.b.xs.map (Value.int .i64))) ∨ (i = 13 ∧ (∃ g9, v = .slice (some ⟨g9, 0, none⟩) 1 1 ∧ W.heap[g9]? = some (.cells #[.slice xa6 xf.b.xs.length xc6, Vi xf.why] 49)) ∧ OwnR W w3.heap.size 3 1 (.slice xa6 xf.b.xs.length xc6) xf.b.xs.length (xf.b.xs.map (Value.int .i64))) := ⟨_, rfl⟩
  obtain ⟨Tc, hTc⟩ : ∃ T : Value → World → Prop, T = fun v W => ∃ xa6 xc6 oa3 oc3, v = .slice oa3 (E2.length + 1) oc3 ∧ LvAt W w.heap.size (.slice oa3 (E2.length + 1) oc3) (E2 ++ [⟨⟨xf.b.xs, xa6, xc6⟩, xf.why⟩]) ∧ Only (fun b => (Value.slice oa E2.length oc).ownBlock = some b) w3 W := ⟨_, rfl⟩
  have uTp : ∀ i, UpV (Tp i) := by
   subst hTp
   rintro i v W W2 ⟨x, y, h⟩ g
   refine ⟨x, y, ?_⟩
   rcases h with ⟨h1, h2, h3⟩ | ⟨h1, h2, h3⟩ | ⟨h1, ⟨q, h2, h3⟩, h4⟩
   ·exact .inl ⟨h1, h2, h3.gr g⟩
   ·exact .inr (.inl ⟨h1, h2, h3.gr g⟩)
   ·exact .inr (.inr ⟨h1, ⟨q, h2, (g.below.block _ (Array.getElem?_eq_some_iff.1 h3).1).trans h3⟩, h4.gr g⟩)
  refine region_xi F [some (.slice oa E2.length oc), some (.slice (some pd5) E.length lc9), some (Vi i), some (.pointer (some (pd5.add (i * 2)))), some (.pointer (some (pd5.add (i * 2)))), some (.slice xf.b.a xf.b.xs.length xf.b.c), none, some (.slice (some pd5) E.length lc9), some (Vi i), some (.pointer (some (pd5.add (i * 2)))), some (.pointer (some (⟨(pd5.add (i * 2)).block, (pd5.add (i * 2)).off + 1, none⟩))), some (Vi xf.why), none, none, none, none] (RQ w3 [6, 12, 13] 14 15 Tp Tc) rfl ⟨by kernel_rfl, of_decide_eq_true (by kernel_rfl), by kernel_rfl, by kernel_rfl, by kernel_rfl⟩ (fun _ => ⟨RQ.start (Gr.refl _), RQ.start (Gr.drew _)⟩) ⟨?_, ?_, ?_, ?_, ?_, ?_, ?_, ?_, ?_, ?_, ?_, ?_, ?_, ?_, ?_, ?_, trivial⟩ ?_
  ·intro ac done u W Sx hR
   have g : Gr w3 W := hR.g (Sx.no 14 (by kernel_rfl))
   exact X.vl (X.move rfl (Sx.ev 3 (.slice oa E2.length oc))) (hR.quiet uTp (Sx.no 14 (by kernel_rfl)) (Sx.no 15 (by kernel_rfl)) (Gr.refl _) (by decide))
  ·intro ac done u W Sx hR
   have g : Gr w3 W := hR.g (Sx.no 14 (by kernel_rfl))
   exact X.vl (X.move rfl (Sx.ev 0 (.slice (some pd5) E.length lc9))) (hR.quiet uTp (Sx.no 14 (by kernel_rfl)) (Sx.no 15 (by kernel_rfl)) (Gr.refl _) (by decide))
  ·intro ac done u W Sx hR
   have g : Gr w3 W := hR.g (Sx.no 14 (by kernel_rfl))
   exact X.vl (X.move rfl (Sx.ev 4 (Vi i))) (hR.quiet uTp (Sx.no 14 (by kernel_rfl)) (Sx.no 15 (by kernel_rfl)) (Gr.refl _) (by decide))
  ·intro ac done u W Sx hR
   have g : Gr w3 W := hR.g (Sx.no 14 (by kernel_rfl))
   exact X.vl (X.index rfl (Sx.ev 12 (.slice (some pd5) E.length lc9)) (Sx.ev 13 (Vi i)) (X.idx (k := i) Try.underlying45 (Try.siz49 _) (by omega) (by omega) rfl)) (hR.quiet uTp (Sx.no 14 (by kernel_rfl)) (Sx.no 15 (by kernel_rfl)) (Gr.refl _) (by decide))
  ·intro ac done u W Sx hR
   have g : Gr w3 W := hR.g (Sx.no 14 (by kernel_rfl))
   exact X.vl (X.field rfl (Sx.ev 14 (.pointer (some (pd5.add (i * 2))))) (X.fld Try.underlying49 rfl (Try.siz34 _) rfl rfl)) (hR.quiet uTp (Sx.no 14 (by kernel_rfl)) (Sx.no 15 (by kernel_rfl)) (Gr.refl _) (by decide))
  ·intro ac done u W Sx hR
   have g : Gr w3 W := hR.g (Sx.no 14 (by kernel_rfl))
   exact X.vl (X.load rfl (Sx.ev 15 (.pointer (some (pd5.add (i * 2))))) (X.ld1 (Try.agg34 _) ((hC.gr g).at 0 rfl))) (hR.quiet uTp (Sx.no 14 (by kernel_rfl)) (Sx.no 15 (by kernel_rfl)) (Gr.refl _) (by decide))
  ·intro ac done u W Sx hR
   have g : Gr w3 W := hR.g (Sx.no 14 (by kernel_rfl))
   refine X.call (X.w0 rfl) (X.enter (F := 33) rfl (X.kc (.func (.func 33) #[] #[]) rfl) (X.a1 (Sx.ev 16 (.slice xf.b.a xf.b.xs.length xf.b.c))) (enters_of Try.func33 (by kernel_rfl) rfl _)) (ints_any xf.b.a xf.b.c xf.b.xs W (pI5.gr g) (by omega)) ?_
   rintro e W2 ⟨xa6, xc6, rfl, hO6, g2⟩
   exact ⟨_, rfl, X.un rfl, hR.step uTp (Sx.no 14 (by kernel_rfl)) (Sx.no 15 (by kernel_rfl)) g2 (by decide) (fun _ => by subst hTp; exact ⟨xa6, xc6, .inl ⟨rfl, rfl, hO6.lower g.size⟩⟩)⟩
  ·intro ac done u W Sx hR
   have g : Gr w3 W := hR.g (Sx.no 14 (by kernel_rfl))
   exact X.vl (X.move rfl (Sx.ev 0 (.slice (some pd5) E.length lc9))) (hR.quiet uTp (Sx.no 14 (by kernel_rfl)) (Sx.no 15 (by kernel_rfl)) (Gr.refl _) (by decide))
  ·intro ac done u W Sx hR
   have g : Gr w3 W := hR.g (Sx.no 14 (by kernel_rfl))
   exact X.vl (X.move rfl (Sx.ev 4 (Vi i))) (hR.quiet uTp (Sx.no 14 (by kernel_rfl)) (Sx.no 15 (by kernel_rfl)) (Gr.refl _) (by decide))
  ·intro ac done u W Sx hR
   have g : Gr w3 W := hR.g (Sx.no 14 (by kernel_rfl))
   exact X.vl (X.index rfl (Sx.ev 18 (.slice (some pd5) E.length lc9)) (Sx.ev 19 (Vi i)) (X.idx (k := i) Try.underlying45 (Try.siz49 _) (by omega) (by omega) rfl)) (hR.quiet uTp (Sx.no 14 (by kernel_rfl)) (Sx.no 15 (by kernel_rfl)) (Gr.refl _) (by decide))
  ·intro ac done u W Sx hR
   have g : Gr w3 W := hR.g (Sx.no 14 (by kernel_rfl))
   exact X.vl (X.field rfl (Sx.ev 20 (.pointer (some (pd5.add (i * 2))))) (X.fld Try.underlying49 rfl (Try.siz3 _) rfl rfl)) (hR.quiet uTp (Sx.no 14 (by kernel_rfl)) (Sx.no 15 (by kernel_rfl)) (Gr.refl _) (by decide))
  ·intro ac done u W Sx hR
   have g : Gr w3 W := hR.g (Sx.no 14 (by kernel_rfl))
   exact X.vl (X.load rfl (Sx.ev 21 (.pointer (some (⟨(pd5.add (i * 2)).block, (pd5.add (i * 2)).off + 1, none⟩)))) (X.ld1 (Try.agg3 _) ((hC.gr g).at 1 rfl))) (hR.quiet uTp (Sx.no 14 (by kernel_rfl)) (Sx.no 15 (by kernel_rfl)) (Gr.refl _) (by decide))
  ·intro ac done u W Sx hR
   have g : Gr w3 W := hR.g (Sx.no 14 (by kernel_rfl))
   have hA := hR.gp 6 (by simp) (Sx.an 6 (by kernel_rfl)) (Sx.no 14 (by kernel_rfl))
   rw [hTp] at hA
   obtain ⟨xa6, xc6, hA⟩ := hA
   obtain ⟨e6, hO6⟩ : u 6 = .slice xa6 xf.b.xs.length xc6 ∧ OwnR W w3.heap.size 3 1 (.slice xa6 xf.b.xs.length xc6) xf.b.xs.length (xf.b.xs.map (Value.int .i64)) := by
    rcases hA with ⟨_, h⟩ | ⟨h, _⟩ | ⟨h, _⟩
    ·exact h
    ·omega
    ·omega
   exact X.valN (X.w0 rfl) rfl (Y.bd rfl (X.b2 ((Sx.own 6 17 rfl).trans e6) (Sx.ev 22 (Vi xf.why))) (Try.bd49 _ _ _ _ _)) (hR.step uTp (Sx.no 14 (by kernel_rfl)) (Sx.no 15 (by kernel_rfl)) (Gr.refl _) (by decide) (fun _ => by subst hTp; exact ⟨xa6, xc6, .inr (.inl ⟨rfl, rfl, hO6⟩)⟩))
  ·intro ac done u W Sx hR
   have g : Gr w3 W := hR.g (Sx.no 14 (by kernel_rfl))
   have hA := hR.gp 12 (by simp) (Sx.an 12 (by kernel_rfl)) (Sx.no 14 (by kernel_rfl))
   rw [hTp] at hA
   obtain ⟨xa6, xc6, hA⟩ := hA
   obtain ⟨e12, hO6⟩ : u 12 = .agg #[.slice xa6 xf.b.xs.length xc6, Vi xf.why] ∧ OwnR W w3.heap.size 3 1 (.slice xa6 xf.b.xs.length xc6) xf.b.xs.length (xf.b.xs.map (Value.int .i64)) := by
    rcases hA with ⟨h, _⟩ | ⟨_, h⟩ | ⟨h, _⟩
    ·omega
    ·exact h
    ·omega
   exact X.valN (X.w0 rfl) rfl (X.bs rfl (X.b1 ((Sx.own 12 23 rfl).trans e12)) (Try.bs45_1 _ _ _ _ _)) (hR.step uTp (Sx.no 14 (by kernel_rfl)) (Sx.no 15 (by kernel_rfl)) (Gr.alloc _ _) (by decide) (fun _ => by subst hTp; exact ⟨xa6, xc6, .inr (.inr ⟨rfl, ⟨_, rfl, heap_alloc_new _ _⟩, hO6.gr (Gr.alloc _ _)⟩)⟩))
  ·intro ac done u W Sx hR
   have g : Gr w3 W := hR.g Sx.nd
   have hA := hR.gp 13 (by simp) (Sx.an 13 (by kernel_rfl)) Sx.nd
   rw [hTp] at hA
   obtain ⟨xa6, xc6, hA⟩ := hA
   obtain ⟨⟨g9, e13, hg9⟩, hO6⟩ : (∃ g9, u 13 = .slice (some ⟨g9, 0, none⟩) 1 1 ∧ W.heap[g9]? = some (.cells #[.slice xa6 xf.b.xs.length xc6, Vi xf.why] 49)) ∧ OwnR W w3.heap.size 3 1 (.slice xa6 xf.b.xs.length xc6) xf.b.xs.length (xf.b.xs.map (Value.int .i64)) := by
    rcases hA with ⟨h, _⟩ | ⟨h, _⟩ | ⟨_, h⟩
    ·omega
    ·omega
    ·exact h
   refine X.law (X.w0 rfl) (fun K_ hK => wp_pushV Try.underlying45 Try.info49 rfl (by decide) rfl (Sx.ev 11 (.slice oa E2.length oc)) ((Sx.own 13 24 rfl).trans e13) (hLv.o.gr g) (m := 1) (news := [.slice xa6 xf.b.xs.length xc6, Vi xf.why]) rfl (cells_at (vs := [.slice xa6 xf.b.xs.length xc6, Vi xf.why]) hg9) rfl (by omega) (by decide) (Nat.le_trans hO1.size g.size) (fun v2 W2 hO3 hon hat => hK v2 W2 (fun x hx => by cases hx) (RQ.sc (by decide) (Sx.no 15 (by kernel_rfl)) ?_)))
   obtain ⟨hLv3, -⟩ := (hLv.gr g).push (x := ⟨⟨xf.b.xs, xa6, xc6⟩, xf.why⟩) ⟨hO6.intsS (by omega), hO6.le⟩ (fun ad e => ⟨(hO6.ge (b := ad.block) (by simp only at e; rw [e]; rfl)).2, fun e2 => by have h1 := (hO6.ge (b := ad.block) (by simp only at e; rw [e]; rfl)).1; have h2 := (hLv.o.ge e2).2; omega⟩) hO3 hon hat
   obtain ⟨oa3, oc3, rfl⟩ := hO3.form
   subst hTc
   exact ⟨xa6, xc6, oa3, oc3, rfl, hLv3, (g.only _).trans hon⟩
  ·intro ac done u W Sx hR
   exact X.valN (X.w0 rfl) rfl (X.assign rfl (Sx.own 14 25 rfl)) (RQ.sd (by decide) (Sx.an 14 (by kernel_rfl)) hR)
  rintro ac u w6 hs hd hl_ ho hR
  have hcc := hR.gc rfl
  have e15 := hR.gd rfl
  rw [hTc] at hcc
  obtain ⟨xa6, xc6, oa3, oc3, e14, hLv3, hon⟩ := hcc
  rw [e14] at e15
  clear hTp hTc uTp e14
  replace F : Fr ac 27 [(0, .slice (some pd5) E.length lc9), (4, Vi i)] := X.fr hs hd hl_ _ (by kernel_rfl)
  replace F := F.add (ho 15 3 rfl) e15
  clear hs hd hl_ ho hR e15
  replace F : Fr ac 27 [(0, .slice (some pd5) E.length lc9), (3, .slice oa3 (E2.length + 1) oc3), (4, Vi i)] := F.sub _
  replace hO1 := hO1.step2 hon (fun r e => .inr (hLv.o.ge e).1)
  clear hon hLv
  refine X.blockN (X.thenN ?_)
  refine Y.lg F [(0, .slice (some pd5) E.length lc9), (3, .slice oa3 (E2.length + 1) oc3), (4, Vi ((i : Int) + 1))] (by
   refine Y.pv F (X.move rfl (F.ev 4 (Vi i))) fun ac F=>?_
   refine Y.pv F (X.binop rfl (F.ev 9 (Vi i)) (X.kc (Vi 1) rfl) (X.addI Try.underlying3 rfl (by omega) (by omega))) fun ac F=>?_
   refine Y.pv F (X.assign rfl (F.ev 10 (Vi ((i : Int) + 1)))) fun ac F=>?_
   exact Y.fin F) ?_;clear F ac;intro ac F
  refine ⟨_, ?_, i + 1, E2 ++ [⟨⟨xf.b.xs, xa6, xc6⟩, xf.why⟩], oa3, oc3, rfl, hO1, by omega, by rw [List.length_append]; exact hLv3, by rw [take_s hxxf, stripL_app, stripL_app, hst]; rfl, (by rw [List.length_append]; exact F.sub _)⟩
  omega
end
section
open Go.RowKit

theorem prov_strip {p : Pb} {cost : Int} {E D : List LfE} (h : stripL E = stripL D) : provB p cost E = provB p cost D := by unfold provB; rw [h]
end
section
open Go.RowKit

set_option maxRecDepth 100000 in
set_option maxHeartbeats 4000000 in
theorem prove_any (p : Pb) (ta ha ba la : Option Addr) (tc hc bc lc : Nat) (hsm0 : chkE p = 0 → p.nt ≤ 5 ∧ p.nh ≤ 4) (w : World) (hP : PbAt w p ta ha ba la tc hc bc lc) :
  Calls Try.prog 30 #[.agg #[.slice ta p.nt tc, .slice ha p.nh hc, .slice ba p.nb bc, .slice la p.nl lc]] w fun e w' => ∃ a c E, e = .returned (.tuple #[.slice a (List.length E) c, Vi (chkE p)]) ∧ LfAt w' a E ∧ stripL E = prvL p ∧ E.length ≤ 1024 ∧ Gr w w' := by
 have G := Gr.refl w
 have hpt := hP.t
 have hph := hP.h
 have hpb := hP.b
 have hpl := hP.l
 have hplen := hP.len
 obtain ⟨hn1, hn2, hn3, hn4⟩ := hplen
 have hcp1 := hpt.cap
 have hcp2 := hph.cap
 have hcp3 := hpb.cap
 have hcp4 := hpl.cap
 refine Y.calls 53 Try.func30 rfl rfl ?_
 intro ac F0
 have F : Fr ac 53 [(0, .agg #[.slice ta p.nt tc, .slice ha p.nh hc, .slice ba p.nb bc, .slice la p.nl lc])] := F0.sub _
 clear F0
 refine Y.sl ?_
 have hgs3 : w.heap.size ≤ w.heap.size := G.size
 refine Y.pv F (X.box rfl (F.ev 0 (.agg #[.slice ta p.nt tc, .slice ha p.nh hc, .slice ba p.nb bc, .slice la p.nl lc])) X.bx) ?_;clear F ac;intro ac F
 have hgs5 : w.heap.size ≤ w.heap.size := G.size
 obtain ⟨w6, hw_, g, hb, hbl, hC2⟩ := Y.bxd (RCells.nil w) #[.slice ta p.nt tc, .slice ha p.nh hc, .slice ba p.nb bc, .slice la p.nl lc] 27;rw [hw_];clear hw_
 replace G := G.trans g
 have hC := hC2
 clear hC2
 replace hpt := hpt.gr g
 replace hph := hph.gr g
 replace hpb := hpb.gr g
 replace hpl := hpl.gr g
 have hsz4 := hbl
 clear g hb hbl
 refine Y.pv F (Y.al rfl (Try.new45 _)) ?_;clear F ac;intro ac F
 have hbl7 : w.heap.size < w6.heap.size := lt_cell (hC.at 0 rfl)
 have g := Gr.alloc w6 (.cells #[.slice none 0 0] 45)
 have hb := heap_alloc_new w6 (.cells #[.slice none 0 0] 45)
 have hszw8 : w6.heap.size < (w6.alloc (.cells #[.slice none 0 0] 45)).heap.size := by simp
 have hgsw8 : w.heap.size ≤ w6.heap.size := G.size
 generalize w6.alloc (.cells #[.slice none 0 0] 45) = w8 at *
 replace G := G.trans g
 replace hC := hC.gr g
 replace hpt := hpt.gr g
 replace hph := hph.gr g
 replace hpb := hpb.gr g
 replace hpl := hpl.gr g
 have hVw8 : OwnP w8 w6.heap.size 1 (fun _ => .slice none 0 0) := ownP_1 hb
 clear g hb
 refine Y.pv F (Y.al rfl (Try.new31 _)) ?_;clear F ac;intro ac F
 have hbl9 : w.heap.size < w8.heap.size := lt_cell (hC.at 0 rfl)
 have hbo10 := hVw8.lt
 have g := Gr.alloc w8 (.cells #[Vi 0] 31)
 have hb := heap_alloc_new w8 (.cells #[Vi 0] 31)
 have hszw11 : w8.heap.size < (w8.alloc (.cells #[Vi 0] 31)).heap.size := by simp
 have hgsw11 : w.heap.size ≤ w8.heap.size := G.size
 generalize w8.alloc (.cells #[Vi 0] 31) = w11 at *
 replace G := G.trans g
 replace hC := hC.gr g
 replace hpt := hpt.gr g
 replace hph := hph.gr g
 replace hpb := hpb.gr g
 replace hpl := hpl.gr g
 replace hVw8 := hVw8.gr g
 have hVw11 : OwnP w11 w8.heap.size 1 (fun _ => Vi 0) := ownP_1 hb
 clear g hb
 refine Y.nt F [(1, Vp w.heap.size), (2, Vp w6.heap.size), (3, Vp w8.heap.size)] ?_;clear F ac;intro ac F
 refine Y.seq ?_
 refine Y.sl ?_
 refine Y.pv F (X.load rfl (F.ev 1 (Vp w.heap.size)) (X.ldN (Try.agg27 _) (Try.siz27 _) (Y.atz (⟨w.heap.size, 0, none⟩) (Y.AtFrom.cons (hC.at 0 rfl) (Y.AtFrom.cons (hC.at 1 rfl) (Y.AtFrom.cons (hC.at 2 rfl) (Y.AtFrom.cons (hC.at 3 rfl) (Y.AtFrom.nil _ _ _)))))))) fun ac F=>Y.pc F 18 (X.a1 (F.ev 11 (.agg #[.slice ta p.nt tc, .slice ha p.nh hc, .slice ba p.nb bc, .slice la p.nl lc]))) Try.func18 (check_any p ta ha ba la tc hc bc lc w11 (hP.gr G)) ?_
 clear F ac
 rintro e w12 ⟨rfl, g⟩
 refine ⟨_, rfl, ?_⟩
 intro ac F
 replace G := G.trans g
 replace hC := hC.gr g
 replace hpt := hpt.gr g
 replace hph := hph.gr g
 replace hpb := hpb.gr g
 replace hpl := hpl.gr g
 replace hVw8 := hVw8.gr g
 replace hVw11 := hVw11.gr g
 clear g
 refine Y.pv F (X.assign rfl (F.ev 12 (Vi (chkE p)))) ?_;clear F ac;intro ac F
 refine Y.nt F [(1, Vp w.heap.size), (2, Vp w6.heap.size), (3, Vp w8.heap.size), (4, Vi (chkE p))] ?_;clear F ac;intro ac F
 refine Y.sg F [(1, Vp w.heap.size), (2, Vp w6.heap.size), (3, Vp w8.heap.size), (4, Vi (chkE p)), (14, .bool ((chkE p : Int) != 0))] (Y.pv F (X.move rfl (F.ev 4 (Vi (chkE p)))) fun ac F=>Y.pv F (X.binop rfl (F.ev 13 (Vi (chkE p))) (X.kc (Vi 0) rfl) (X.neqI Try.underlying31 rfl)) fun ac F=>Y.fin F) ?_;clear F ac;intro ac F
 cases h13 : ((chkE p : Int) != 0) with
 | false =>
  try rw [h13] at F
  have h13p : (chkE p : Int) = 0 := by simpa using h13
  have hck : chkE p = 0 := by omega
  have hp := chk_ok hck
  have hsm := hsm0 hck
  refine Y.cF F 14 ?_
  refine Y.skip ?_
  refine X.thenN ?_
  refine Y.sl ?_
  refine Y.pv F (X.load rfl (F.ev 1 (Vp w.heap.size)) (X.ldN (Try.agg27 _) (Try.siz27 _) (Y.atz (⟨w.heap.size, 0, none⟩) (Y.AtFrom.cons (hC.at 0 rfl) (Y.AtFrom.cons (hC.at 1 rfl) (Y.AtFrom.cons (hC.at 2 rfl) (Y.AtFrom.cons (hC.at 3 rfl) (Y.AtFrom.nil _ _ _)))))))) fun ac F=>Y.pc F 22 (X.a1 (F.ev 17 (.agg #[.slice ta p.nt tc, .slice ha p.nh hc, .slice ba p.nb bc, .slice la p.nl lc]))) Try.func22 (best_any p ta ha ba la tc hc bc lc w12 (hP.gr G)) ?_
  clear F ac
  rintro e w14 ⟨ba9, bc9, rfl, -, -, g⟩
  refine ⟨_, rfl, ?_⟩
  intro ac F
  replace G := G.trans g
  replace hC := hC.gr g
  replace hpt := hpt.gr g
  replace hph := hph.gr g
  replace hpb := hpb.gr g
  replace hpl := hpl.gr g
  replace hVw8 := hVw8.gr g
  replace hVw11 := hVw11.gr g
  clear g
  refine Y.pv4 F (X.move rfl (F.ev 18 (.tuple #[.slice ba9 ((bestR p).1.length) bc9, Vi ((bestR p).2.1), Vi ((bestR p).2.2)]))) (fun _ F=>X.extract rfl (F.ev 16 (.tuple #[.slice ba9 ((bestR p).1.length) bc9, Vi ((bestR p).2.1), Vi ((bestR p).2.2)])) rfl) (fun _ F=>X.extract rfl (F.ev 16 (.tuple #[.slice ba9 ((bestR p).1.length) bc9, Vi ((bestR p).2.1), Vi ((bestR p).2.2)])) rfl) (fun _ F=>X.extract rfl (F.ev 16 (.tuple #[.slice ba9 ((bestR p).1.length) bc9, Vi ((bestR p).2.1), Vi ((bestR p).2.2)])) rfl) fun ac F=>Y.pv F (Y.al rfl (Try.new3 _)) ?_;clear F ac;intro ac F
  have hbl15 : w.heap.size < w14.heap.size := lt_cell (hC.at 0 rfl)
  have hbo16 := hVw8.lt
  have hbo17 := hVw11.lt
  have g := Gr.alloc w14 (.cells #[Vi 0] 3)
  have hb := heap_alloc_new w14 (.cells #[Vi 0] 3)
  have hszw18 : w14.heap.size < (w14.alloc (.cells #[Vi 0] 3)).heap.size := by simp
  have hgsw18 : w.heap.size ≤ w14.heap.size := G.size
  generalize w14.alloc (.cells #[Vi 0] 3) = w18 at *
  replace G := G.trans g
  replace hC := hC.gr g
  replace hpt := hpt.gr g
  replace hph := hph.gr g
  replace hpb := hpb.gr g
  replace hpl := hpl.gr g
  replace hVw8 := hVw8.gr g
  replace hVw11 := hVw11.gr g
  have hVw18 : OwnP w18 w14.heap.size 1 (fun _ => Vi 0) := ownP_1 hb
  clear g hb
  refine Y.pv F (Y.al rfl (Try.new31 _)) ?_;clear F ac;intro ac F
  have hbl19 : w.heap.size < w18.heap.size := lt_cell (hC.at 0 rfl)
  have hbo20 := hVw8.lt
  have hbo21 := hVw11.lt
  have hbo22 := hVw18.lt
  have g := Gr.alloc w18 (.cells #[Vi 0] 31)
  have hb := heap_alloc_new w18 (.cells #[Vi 0] 31)
  have hszw23 : w18.heap.size < (w18.alloc (.cells #[Vi 0] 31)).heap.size := by simp
  have hgsw23 : w.heap.size ≤ w18.heap.size := G.size
  generalize w18.alloc (.cells #[Vi 0] 31) = w23 at *
  replace G := G.trans g
  replace hC := hC.gr g
  replace hpt := hpt.gr g
  replace hph := hph.gr g
  replace hpb := hpb.gr g
  replace hpl := hpl.gr g
  replace hVw8 := hVw8.gr g
  replace hVw11 := hVw11.gr g
  replace hVw18 := hVw18.gr g
  have hVw23 : OwnP w23 w18.heap.size 1 (fun _ => Vi 0) := ownP_1 hb
  clear g hb
  refine Y.pv F (X.assign rfl (F.ev 19 (.slice ba9 ((bestR p).1.length) bc9))) fun ac F=>Y.punit F (X.w0 rfl) rfl (X.store rfl (F.ev 6 (Vp w14.heap.size)) (F.ev 20 (Vi ((bestR p).2.1))) (hVw18.st1 (Try.siz3 _) rfl rfl (by omega))) ?_;clear F ac;intro ac F
  have hon := Y.set_only w23 w14.heap.size 0 (Vi ((bestR p).2.1))
  have hV2 := hVw18.set (k := 0) (Vi ((bestR p).2.1))
  replace hV2 := hV2.congr (val' := fun _ => Vi ((bestR p).2.1)) (fun k hk => if_pos (by omega))
  generalize w23.setCell ⟨w14.heap.size, 0, none⟩ (Vi ((bestR p).2.1)) = w25 at *
  replace hVw18 : OwnP w25 w14.heap.size 1 (fun _ => Vi ((bestR p).2.1)) := hV2
  clear hV2
  replace G := Y.Only.up G hon (by omega)
  replace hpt := (hP.t).gr G
  replace hph := (hP.h).gr G
  replace hpb := (hP.b).gr G
  replace hpl := (hP.l).gr G
  replace hVw8 := hVw8.only hon (by show ¬ _ = _; omega)
  replace hVw11 := hVw11.only hon (by show ¬ _ = _; omega)
  replace hVw23 := hVw23.only hon (by show ¬ _ = _; omega)
  replace hC := (hC.kc hon 0 rfl (hC.kc hon 1 rfl (hC.kc hon 2 rfl (hC.kc hon 3 rfl (RCells.nil _)))))
  clear hon
  refine Y.punit F (X.w0 rfl) rfl (X.store rfl (F.ev 7 (Vp w18.heap.size)) (F.ev 21 (Vi ((bestR p).2.2))) (hVw23.st1 (Try.siz31 _) rfl rfl (by omega))) ?_;clear F ac;intro ac F
  have hon := Y.set_only w25 w18.heap.size 0 (Vi ((bestR p).2.2))
  have hV2 := hVw23.set (k := 0) (Vi ((bestR p).2.2))
  replace hV2 := hV2.congr (val' := fun _ => Vi ((bestR p).2.2)) (fun k hk => if_pos (by omega))
  generalize w25.setCell ⟨w18.heap.size, 0, none⟩ (Vi ((bestR p).2.2)) = w27 at *
  replace hVw23 : OwnP w27 w18.heap.size 1 (fun _ => Vi ((bestR p).2.2)) := hV2
  clear hV2
  replace G := Y.Only.up G hon (by omega)
  replace hpt := (hP.t).gr G
  replace hph := (hP.h).gr G
  replace hpb := (hP.b).gr G
  replace hpl := (hP.l).gr G
  replace hVw8 := hVw8.only hon (by show ¬ _ = _; omega)
  replace hVw11 := hVw11.only hon (by show ¬ _ = _; omega)
  replace hVw18 := hVw18.only hon (by show ¬ _ = _; omega)
  replace hC := (hC.kc hon 0 rfl (hC.kc hon 1 rfl (hC.kc hon 2 rfl (hC.kc hon 3 rfl (RCells.nil _)))))
  clear hon
  refine Y.nt F [(1, Vp w.heap.size), (2, Vp w6.heap.size), (3, Vp w8.heap.size), (6, Vp w14.heap.size), (7, Vp w18.heap.size)] ?_;clear F ac;intro ac F
  refine Y.sl ?_
  refine Y.pv F (Y.al rfl (Try.new45 _)) ?_;clear F ac;intro ac F
  have hbl28 : w.heap.size < w27.heap.size := lt_cell (hC.at 0 rfl)
  have hbo29 := hVw8.lt
  have hbo30 := hVw11.lt
  have hbo31 := hVw18.lt
  have hbo32 := hVw23.lt
  have g := Gr.alloc w27 (.cells #[.slice none 0 0] 45)
  have hb := heap_alloc_new w27 (.cells #[.slice none 0 0] 45)
  have hszw33 : w27.heap.size < (w27.alloc (.cells #[.slice none 0 0] 45)).heap.size := by simp
  have hgsw33 : w.heap.size ≤ w27.heap.size := G.size
  generalize w27.alloc (.cells #[.slice none 0 0] 45) = w33 at *
  replace G := G.trans g
  replace hC := hC.gr g
  replace hpt := hpt.gr g
  replace hph := hph.gr g
  replace hpb := hpb.gr g
  replace hpl := hpl.gr g
  replace hVw8 := hVw8.gr g
  replace hVw11 := hVw11.gr g
  replace hVw18 := hVw18.gr g
  replace hVw23 := hVw23.gr g
  have hVw33 : OwnP w33 w27.heap.size 1 (fun _ => .slice none 0 0) := ownP_1 hb
  clear g hb
  refine Y.nt F [(1, Vp w.heap.size), (2, Vp w6.heap.size), (3, Vp w8.heap.size), (6, Vp w14.heap.size), (7, Vp w18.heap.size), (8, Vp w27.heap.size)] ?_;clear F ac;intro ac F
  refine Y.seq ?_
  refine Y.sl ?_
  refine Y.pv F (X.load rfl (F.ev 1 (Vp w.heap.size)) (X.ldN (Try.agg27 _) (Try.siz27 _) (Y.atz (⟨w.heap.size, 0, none⟩) (Y.AtFrom.cons (hC.at 0 rfl) (Y.AtFrom.cons (hC.at 1 rfl) (Y.AtFrom.cons (hC.at 2 rfl) (Y.AtFrom.cons (hC.at 3 rfl) (Y.AtFrom.nil _ _ _)))))))) fun ac F=>Y.pc F 69 (X.a1 (F.ev 22 (.agg #[.slice ta p.nt tc, .slice ha p.nh hc, .slice ba p.nb bc, .slice la p.nl lc]))) Try.func69 (nodes_any p ta ha ba la tc hc bc lc w33) ?_
  clear F ac
  have hpre9 := G.size
  rintro e w34 ⟨bn35, rfl, hbn9, hcn, g⟩
  refine ⟨_, rfl, ?_⟩
  intro ac F
  replace G := G.trans g
  replace hC := hC.gr g
  replace hpt := hpt.gr g
  replace hph := hph.gr g
  replace hpb := hpb.gr g
  replace hpl := hpl.gr g
  replace hVw8 := hVw8.gr g
  replace hVw11 := hVw11.gr g
  replace hVw18 := hVw18.gr g
  replace hVw23 := hVw23.gr g
  replace hVw33 := hVw33.gr g
  clear g
  replace hC := hC.append (show RCells w34 (bcells bn35 [.slice ta p.nt tc, .slice ha p.nh hc, .slice ba p.nb bc, .slice la p.nl lc] 0) from (RCells.cons (hcn.at 0 rfl) (RCells.cons (hcn.at 1 rfl) (RCells.cons (hcn.at 2 rfl) (RCells.cons (hcn.at 3 rfl) (RCells.nil _))))))
  refine Y.nt F [(2, Vp w6.heap.size), (3, Vp w8.heap.size), (6, Vp w14.heap.size), (7, Vp w18.heap.size), (8, Vp w27.heap.size), (23, .func (.func 102) #[] #[Vp bn35])] ?_;clear F ac;intro ac F
  refine Y.block ?_
  obtain ⟨ob, hobe⟩ : ∃ x, x = w27.heap.size := ⟨_, rfl⟩
  rw [← hobe] at F hVw33
  obtain ⟨r2, hr2e⟩ : ∃ x, x = w6.heap.size := ⟨_, rfl⟩
  rw [← hr2e] at F hVw8
  obtain ⟨r3, hr3e⟩ : ∃ x, x = w8.heap.size := ⟨_, rfl⟩
  rw [← hr3e] at F hVw11
  replace F : Fr ac 53 [(2, Vp r2), (3, Vp r3), (6, Vp w14.heap.size), (7, Vp w18.heap.size), (8, Vp ob), (23, .func (.func 102) #[] #[Vp bn35])] := F.sub _
  have hgw := G.size
  have hCn : RCells w34 (PbC p ta ha ba la tc hc bc lc bn35) := (RCells.cons (hC.at 4 rfl) (RCells.cons (hC.at 5 rfl) (RCells.cons (hC.at 6 rfl) (RCells.cons (hC.at 7 rfl) (RCells.nil _)))))
  have hzl36 : bn35 < w34.heap.size := lt_cell (hC.at 4 rfl)
  have hzl37 : w.heap.size < w34.heap.size := lt_cell (hC.at 0 rfl)
  have hzy38 : ob < w34.heap.size := hVw33.lt
  have hzy39 : r2 < w34.heap.size := hVw8.lt
  have hzy40 : r3 < w34.heap.size := hVw11.lt
  have hPb : ∀ W, Only (fun b => b = ob ∨ b = r2 ∨ b = r3) w34 W → PbAt W p ta ha ba la tc hc bc lc ∧ RCells W (PbC p ta ha ba la tc hc bc lc bn35) := fun W h => ⟨hP.gr ((G.only (fun b => w.heap.size ≤ b)).trans (h.mono' (fun i e => by omega)) |>.gr (fun i hi e => by omega)), hCn.only h (fun q hq e => by
   simp [PbC] at hq
   rcases hq with rfl | rfl | rfl | rfl <;> (first | omega | (simp only at e; omega)))⟩
  have hK0 := PrvK.start hVw33 hVw8 hVw11 ⟨by omega, by omega, by omega⟩
  have hCl := hC
  have Gl := G
  refine Y.ndRange (D := []) (p := p) (ta := ta) (ha := ha) (ba := ba) (la := la) (tc := tc) (hc := hc) (bc := bc) (lc := lc) (bp := bn35) F (by decide) (by decide) rfl rfl rfl rfl rfl rfl rfl (F.ev 23 _) hp (fun b => b = ob ∨ b = r2 ∨ b = r3) (fun b e => by first | omega | (first | omega | (simp only at e; omega))) hPb (prvF (hopeB p (tim p)) (dearP p)) ([]) (PrvK ob r2 r3 w34.heap.size) (fun b => b = ob ∨ b = r2 ∨ b = r3) (fun _ => False) hK0 (fun b e => by exact e) (fun s O Kp W h => h.lt) (fun s O Kp W W2 h g => h.gr g) (fun s O Kp W W2 h h2 g => h.only (fun b e => by first | omega | (simp only at e; omega)) h2 g) (fun _ _ => True) (fun _ _ _ h => h) ?_ ?_ ?_
  ·intro ss O Kp xs a c d b w41 ac hQ hK hOs hlen hx hBeg hdg hdO hdK haO had hD hbg hbd hbO hbK hab hN F
   clear G hC
   have hPW := (hPb w41 hQ).1
   have G := Gr.refl w41
   have hsw := hQ.size
   have hVw18R := hVw18.only hQ (by first | omega | (simp only; omega))
   clear hVw18
   have hVw18 := hVw18R
   have hVw23R := hVw23.only hQ (by first | omega | (simp only; omega))
   clear hVw23
   have hVw23 := hVw23R
   have hC : RCells w41 [(Ad w.heap.size 0, .slice ta p.nt tc), (Ad w.heap.size 1, .slice ha p.nh hc), (Ad w.heap.size 2, .slice ba p.nb bc), (Ad w.heap.size 3, .slice la p.nl lc), (Ad bn35 0, .slice ta p.nt tc), (Ad bn35 1, .slice ha p.nh hc), (Ad bn35 2, .slice ba p.nb bc), (Ad bn35 3, .slice la p.nl lc), (Ad b 0, .slice a xs.length c), (Ad b 1, .bool (hopeB p (tim p) xs)), (Ad b 2, Vi (bndV p xs)), (Ad b 3, Vp d)] := (RCells.cons (hQ.cell (hCl.at 0 rfl) (by simp only; omega)) (RCells.cons (hQ.cell (hCl.at 1 rfl) (by simp only; omega)) (RCells.cons (hQ.cell (hCl.at 2 rfl) (by simp only; omega)) (RCells.cons (hQ.cell (hCl.at 3 rfl) (by simp only; omega)) (RCells.cons (hQ.cell (hCl.at 4 rfl) (by simp only; omega)) (RCells.cons (hQ.cell (hCl.at 5 rfl) (by simp only; omega)) (RCells.cons (hQ.cell (hCl.at 6 rfl) (by simp only; omega)) (RCells.cons (hQ.cell (hCl.at 7 rfl) (by simp only; omega)) hN))))))))
   replace hpt := hPW.t
   replace hph := hPW.h
   replace hpb := hPW.b
   replace hpl := hPW.l
   replace F : Fr ac 53 [(2, Vp r2), (3, Vp r3), (6, Vp w14.heap.size), (7, Vp w18.heap.size), (8, Vp ob), (9, Vp b), (23, .func (.func 102) #[] #[Vp bn35]), (24, .agg #[.slice a xs.length c, .bool (hopeB p (tim p) xs), Vi (bndV p xs), Vp d])] := F.sub _
   obtain ⟨v, Ek, rfl, hPr, rfl, rfl, hEl, hlim⟩ := hK
   obtain ⟨oa, oc, rfl⟩ := hPr.r.form
   have hBeg0 := hBeg.lower (show w34.heap.size ≤ w34.heap.size + 2 by omega)
   have hOn2 := Only.refl (fun x => PrvO ob r2 r3 (.slice oa Ek.length oc) x ∨ x = d) w41
   have hsl := stripL_len Ek
   refine Y.block ?_
   refine Y.sg F [(2, Vp r2), (3, Vp r3), (6, Vp w14.heap.size), (7, Vp w18.heap.size), (8, Vp ob), (9, Vp b), (10, Vi 0)] (Y.pv F (X.assign rfl (X.kc (Vi 0) rfl)) fun ac F=>Y.fin F) ?_;clear F ac;intro ac F
   refine Y.seq ?_
   refine Y.block ?_
   refine Y.sg F [(2, Vp r2), (3, Vp r3), (6, Vp w14.heap.size), (7, Vp w18.heap.size), (8, Vp ob), (9, Vp b), (10, Vi 0), (25, .bool (hopeB p (tim p) xs))] (by
    refine Y.pv F (X.field rfl (F.ev 9 (Vp b)) (X.fld Try.underlying102 rfl (Try.siz4 _) rfl rfl)) fun ac F=>?_
    refine Y.pv F (X.load rfl (F.ev 26 (.pointer (some ⟨b, 1, none⟩))) (X.ld1 (Try.agg4 _) (hC.at 9 rfl))) fun ac F=>?_
    refine Y.pv F (X.assign rfl (F.ev 27 (.bool (hopeB p (tim p) xs)))) fun ac F=>?_
    exact Y.fin F) ?_;clear F ac;intro ac F
   cases h42 : hopeB p (tim p) xs with
   | false =>
    try rw [h42] at F
    refine Y.cF F 25 ?_
    refine Y.sl ?_
    replace hC := hC.append (show RCells w41 ([(Ad w18.heap.size 0, Vi ((bestR p).2.2))]) from (RCells.cons (hVw23.cell (k := 0) (by omega)) (RCells.nil _)))
    refine Y.pv3 F (X.load rfl (F.ev 7 (Vp w18.heap.size)) (X.ld1 (Try.agg31 _) (hC.at 12 rfl))) (fun _ F=>X.binop rfl (F.ev 29 (Vi ((bestR p).2.2))) (X.kc (Vi 0) rfl) (X.eqlI Try.underlying31 rfl)) (fun _ F=>X.move rfl (F.ev 30 (.bool ((((bestR p).2.2) : Int) == 0)))) ?_;clear F ac;intro ac F
    cases h43 : ((((bestR p).2.2) : Int) == 0) with
    | false =>
     try rw [h43] at F
     have h43p : ¬ (((bestR p).2.2) : Int) = 0 := by simpa using h43
     refine Y.p3 F 2 31 false fun ac F=>Y.ps F 2 31 false fun ac F=>Y.pv2 F (X.pickF rfl (F.ev 31 (.bool false)) (X.kc (.bool false) rfl)) (fun _ F=>X.assign rfl (F.ev 36 (.bool false))) ?_;clear F ac;intro ac F
     refine Y.nt F [(2, Vp r2), (3, Vp r3), (6, Vp w14.heap.size), (7, Vp w18.heap.size), (8, Vp ob), (9, Vp b), (10, Vi 0), (28, .bool false)] ?_;clear F ac;intro ac F
     refine Y.cF F 28 ?_
     refine Y.skip ?_
     refine X.blockN (X.thenN ?_)
     refine Y.seq ?_
     refine Y.sg F [(2, Vp r2), (3, Vp r3), (6, Vp w14.heap.size), (7, Vp w18.heap.size), (8, Vp ob), (9, Vp b), (10, Vi 0), (41, .bool false)] (Y.pv F (X.move rfl (F.ev 10 (Vi 0))) fun ac F=>Y.pval F (X.w0 rfl) rfl (X.binop rfl (F.ev 40 (Vi 0)) (X.kc (Vi 0) rfl) (X.gtrI Try.underlying3 (show decide ((0 : Int) < 0) = false by simp))) fun ac F=>Y.fin F) ?_;clear F ac;intro ac F
     refine Y.cF F 41 ?_
     refine Y.skip ?_
     refine X.thenN ?_
     refine Y.sl ?_
     replace hC := hC.append (show RCells w41 ([(Ad ob 0, .slice oa Ek.length oc)]) from (RCells.cons (hPr.o.cell (k := 0) (by decide)) (RCells.nil _)))
     refine Y.pv3 F (X.load rfl (F.ev 8 (Vp ob)) (X.ld1 (Try.agg45 _) (hC.at 13 rfl))) (fun _ F=>X.len1 Try.underlying45 rfl (F.ev 49 (.slice oa Ek.length oc))) (fun _ F=>X.binop rfl (F.ev 50 (Vi Ek.length)) (X.kc (Vi 5000) rfl) (X.gtrI Try.underlying3 rfl)) ?_;clear F ac;intro ac F
     refine Y.nt F [(2, Vp r2), (3, Vp r3), (6, Vp w14.heap.size), (7, Vp w18.heap.size), (8, Vp ob), (51, .bool (decide ((5000 : Int) < Ek.length)))] ?_;clear F ac;intro ac F
     cases h44 : decide ((5000 : Int) < Ek.length) with
     | false =>
      try rw [h44] at F
      have h44p : ¬ ((5000 : Int) < Ek.length) := of_decide_eq_false h44
      refine Y.cF F 51 ?_
      refine Y.skip ?_
      refine X.blockN ?_
      have est : prvF (hopeB p (tim p)) (dearP p) (stripL Ek) xs = _ := prv_n h42 (dear_2 h43p)
      refine ⟨?_, ?_, ?_, ?_⟩
      ·exact (G.only _)
      ·rw [est]; exact ⟨_, _, ⟨_, Ek, rfl, hPr, rfl, rfl, hEl, hlim⟩, fun b e => .inl e⟩
      ·rw [est]; exact hD
      ·rw [est]; exact decide_eq_true (by omega)
     | true =>
      try rw [h44] at F
      have h44p : ((5000 : Int) < Ek.length) := of_decide_eq_true h44
      refine Y.cT F 51 ?_
      refine Y.sl ?_
      have hr2 := hPr.c2
      have hr3 := hPr.c3
      refine Y.punit F (X.w0 rfl) rfl (X.store rfl (F.ev 2 (Vp r2)) (X.kc (.slice none 0 0) rfl) (hr2.st1 (Try.siz45 _) rfl rfl (by decide))) ?_;clear F ac;intro ac F
      have hon := Y.set_only w41 r2 0 (.slice none 0 0)
      replace hOn2 := hOn2.step2 ((G.only _).trans hon) (fun r e => .inl (.inl (.inr (.inl e))))
      replace hr3 := hr3.only hon (fun e => hPr.ne.2.2 e.symm)
      clear G
      generalize w41.setCell ⟨r2, 0, none⟩ (.slice none 0 0) = w45 at *
      have G := Gr.refl w45
      clear hon
      refine Y.punit F (X.w0 rfl) rfl (X.store rfl (F.ev 3 (Vp r3)) (X.kc (Vi 2) rfl) (hr3.st1 (Try.siz31 _) rfl rfl (by decide))) ?_;clear F ac;intro ac F
      have hon := Y.set_only w45 r3 0 (Vi 2)
      replace hOn2 := hOn2.step2 ((G.only _).trans hon) (fun r e => .inl (.inl (.inr (.inr (.inl e)))))
      clear G
      generalize w45.setCell ⟨r3, 0, none⟩ (Vi 2) = w46 at *
      have G := Gr.refl w46
      clear hon
      refine Y.nt F [(2, Vp r2), (3, Vp r3)] ?_;clear F ac;intro ac F
      refine Y.ret ?_
      refine X.blockR ?_
      have est : prvF (hopeB p (tim p)) (dearP p) (stripL Ek) xs = _ := prv_n h42 (dear_2 h43p)
      exact ⟨hOn2, trivial, by rw [est]; exact decide_eq_false (by omega)⟩
    | true =>
     try rw [h43] at F
     have h43p : (((bestR p).2.2) : Int) = 0 := by simpa using h43
     refine Y.pg F 2 31 true (X.field rfl (F.ev 9 (Vp b)) (X.fld Try.underlying102 rfl (Try.siz3 _) rfl rfl)) fun ac F=>Y.pg F 2 31 true (X.load rfl (F.ev 32 (.pointer (some ⟨b, 2, none⟩))) (X.ld1 (Try.agg3 _) (hC.at 10 rfl))) ?_;clear F ac;intro ac F
     replace hC := hC.append (show RCells w41 ([(Ad w14.heap.size 0, Vi ((bestR p).2.1))]) from (RCells.cons (hVw18.cell (k := 0) (by omega)) (RCells.nil _)))
     refine Y.pg F 2 31 true (X.load rfl (F.ev 6 (Vp w14.heap.size)) (X.ld1 (Try.agg3 _) (hC.at 13 rfl))) fun ac F=>Y.pg F 2 31 true (X.binop rfl (F.ev 33 (Vi (bndV p xs))) (F.ev 34 (Vi ((bestR p).2.1))) (X.geqI Try.underlying3 rfl)) fun ac F=>Y.pv2 F (X.pickT rfl (F.ev 31 (.bool true)) (F.ev 35 (.bool (decide ((((bestR p).2.1) : Int) ≤ (bndV p xs)))))) (fun _ F=>X.assign rfl (F.ev 36 (.bool (decide ((((bestR p).2.1) : Int) ≤ (bndV p xs)))))) ?_;clear F ac;intro ac F
     refine Y.nt F [(2, Vp r2), (3, Vp r3), (6, Vp w14.heap.size), (7, Vp w18.heap.size), (8, Vp ob), (9, Vp b), (10, Vi 0), (28, .bool (decide ((((bestR p).2.1) : Int) ≤ (bndV p xs))))] ?_;clear F ac;intro ac F
     cases h47 : decide ((((bestR p).2.1) : Int) ≤ (bndV p xs)) with
     | false =>
      try rw [h47] at F
      have h47p : ¬ ((((bestR p).2.1) : Int) ≤ (bndV p xs)) := of_decide_eq_false h47
      refine Y.cF F 28 ?_
      refine Y.skip ?_
      refine X.blockN (X.thenN ?_)
      refine Y.seq ?_
      refine Y.sg F [(2, Vp r2), (3, Vp r3), (6, Vp w14.heap.size), (7, Vp w18.heap.size), (8, Vp ob), (9, Vp b), (10, Vi 0), (41, .bool false)] (Y.pv F (X.move rfl (F.ev 10 (Vi 0))) fun ac F=>Y.pval F (X.w0 rfl) rfl (X.binop rfl (F.ev 40 (Vi 0)) (X.kc (Vi 0) rfl) (X.gtrI Try.underlying3 (show decide ((0 : Int) < 0) = false by simp))) fun ac F=>Y.fin F) ?_;clear F ac;intro ac F
      refine Y.cF F 41 ?_
      refine Y.skip ?_
      refine X.thenN ?_
      refine Y.sl ?_
      replace hC := hC.append (show RCells w41 ([(Ad ob 0, .slice oa Ek.length oc)]) from (RCells.cons (hPr.o.cell (k := 0) (by decide)) (RCells.nil _)))
      refine Y.pv3 F (X.load rfl (F.ev 8 (Vp ob)) (X.ld1 (Try.agg45 _) (hC.at 14 rfl))) (fun _ F=>X.len1 Try.underlying45 rfl (F.ev 49 (.slice oa Ek.length oc))) (fun _ F=>X.binop rfl (F.ev 50 (Vi Ek.length)) (X.kc (Vi 5000) rfl) (X.gtrI Try.underlying3 rfl)) ?_;clear F ac;intro ac F
      refine Y.nt F [(2, Vp r2), (3, Vp r3), (6, Vp w14.heap.size), (7, Vp w18.heap.size), (8, Vp ob), (51, .bool (decide ((5000 : Int) < Ek.length)))] ?_;clear F ac;intro ac F
      cases h48 : decide ((5000 : Int) < Ek.length) with
      | false =>
       try rw [h48] at F
       have h48p : ¬ ((5000 : Int) < Ek.length) := of_decide_eq_false h48
       refine Y.cF F 51 ?_
       refine Y.skip ?_
       refine X.blockN ?_
       have est : prvF (hopeB p (tim p)) (dearP p) (stripL Ek) xs = _ := prv_n h42 (dear_3 h47p)
       refine ⟨?_, ?_, ?_, ?_⟩
       ·exact (G.only _)
       ·rw [est]; exact ⟨_, _, ⟨_, Ek, rfl, hPr, rfl, rfl, hEl, hlim⟩, fun b e => .inl e⟩
       ·rw [est]; exact hD
       ·rw [est]; exact decide_eq_true (by omega)
      | true =>
       try rw [h48] at F
       have h48p : ((5000 : Int) < Ek.length) := of_decide_eq_true h48
       refine Y.cT F 51 ?_
       refine Y.sl ?_
       have hr2 := hPr.c2
       have hr3 := hPr.c3
       refine Y.punit F (X.w0 rfl) rfl (X.store rfl (F.ev 2 (Vp r2)) (X.kc (.slice none 0 0) rfl) (hr2.st1 (Try.siz45 _) rfl rfl (by decide))) ?_;clear F ac;intro ac F
       have hon := Y.set_only w41 r2 0 (.slice none 0 0)
       replace hOn2 := hOn2.step2 ((G.only _).trans hon) (fun r e => .inl (.inl (.inr (.inl e))))
       replace hr3 := hr3.only hon (fun e => hPr.ne.2.2 e.symm)
       clear G
       generalize w41.setCell ⟨r2, 0, none⟩ (.slice none 0 0) = w49 at *
       have G := Gr.refl w49
       clear hon
       refine Y.punit F (X.w0 rfl) rfl (X.store rfl (F.ev 3 (Vp r3)) (X.kc (Vi 2) rfl) (hr3.st1 (Try.siz31 _) rfl rfl (by decide))) ?_;clear F ac;intro ac F
       have hon := Y.set_only w49 r3 0 (Vi 2)
       replace hOn2 := hOn2.step2 ((G.only _).trans hon) (fun r e => .inl (.inl (.inr (.inr (.inl e)))))
       clear G
       generalize w49.setCell ⟨r3, 0, none⟩ (Vi 2) = w50 at *
       have G := Gr.refl w50
       clear hon
       refine Y.nt F [(2, Vp r2), (3, Vp r3)] ?_;clear F ac;intro ac F
       refine Y.ret ?_
       refine X.blockR ?_
       have est : prvF (hopeB p (tim p)) (dearP p) (stripL Ek) xs = _ := prv_n h42 (dear_3 h47p)
       exact ⟨hOn2, trivial, by rw [est]; exact decide_eq_false (by omega)⟩
     | true =>
      try rw [h47] at F
      have h47p : ((((bestR p).2.1) : Int) ≤ (bndV p xs)) := of_decide_eq_true h47
      refine Y.cT F 28 ?_
      refine Y.sg F [(2, Vp r2), (3, Vp r3), (6, Vp w14.heap.size), (7, Vp w18.heap.size), (8, Vp ob), (9, Vp b), (10, Vi 2)] (Y.pv F (X.assign rfl (X.kc (Vi 2) rfl)) fun ac F=>Y.fin F) ?_;clear F ac;intro ac F
      refine Y.lit (by kernel_rfl) ?_
      refine Y.pv3 F (X.field rfl (F.ev 9 (Vp b)) (X.fld Try.underlying102 rfl (Try.siz100 _) rfl rfl)) (fun _ F=>X.load rfl (F.ev 37 (.pointer (some ⟨b, 3, none⟩))) (X.ld1 (Try.agg100 _) (hC.at 11 rfl))) (fun _ F=>Y.nilC rfl (F.ev 38 (Vp d))) fun ac F=>Y.punit F (X.w0 rfl) rfl (X.store rfl (F.ev 39 (Vp d)) (X.kc (.bool false) rfl) (hD.st1 (Try.siz4 _) rfl rfl (by decide))) ?_;clear F ac;intro ac F
      have hon := Y.set_only w41 d 0 (.bool false)
      have hD2 := (hD.set (k := 0) (.bool false)).congr (val' := fun _ => .bool false) (fun k hk => if_pos (by omega))
      generalize w41.setCell ⟨d, 0, none⟩ (.bool false) = w51 at *
      have hQ0 := (hQ.trans (G.only _))
      clear hQ
      have hQ := hQ0.step2 hon (fun r e => .inr (by have e2 : r = d := e; omega))
      clear hQ0
      replace hPr := hPr.only hon (fun b e h => by have h8 : b = d := h; subst h8; exact hdO e) (fun b e h => by have h8 : b = d := h; subst h8; exact hdK e)
      replace hBeg0 := (hBeg0.gr G).only hon (fun ad e h => had ad e h)
      replace hOn2 := hOn2.step2 ((G.only _).trans hon) (fun r e => .inl (.inr e))
      replace hC := (RCells.cons (hon.cell (hC.at 0 rfl) (by simp only; omega)) (RCells.cons (hon.cell (hC.at 1 rfl) (by simp only; omega)) (RCells.cons (hon.cell (hC.at 2 rfl) (by simp only; omega)) (RCells.cons (hon.cell (hC.at 3 rfl) (by simp only; omega)) (RCells.cons (hon.cell (hC.at 4 rfl) (by simp only; omega)) (RCells.cons (hon.cell (hC.at 5 rfl) (by simp only; omega)) (RCells.cons (hon.cell (hC.at 6 rfl) (by simp only; omega)) (RCells.cons (hon.cell (hC.at 7 rfl) (by simp only; omega)) (RCells.cons (hon.cell (hC.at 8 rfl) (by simp only; omega)) (RCells.cons (hon.cell (hC.at 9 rfl) (by simp only; omega)) (RCells.cons (hon.cell (hC.at 10 rfl) (by simp only; omega)) (RCells.cons (hon.cell (hC.at 11 rfl) (by simp only; omega)) (RCells.cons (hon.cell (hC.at 12 rfl) (by simp only; omega)) (RCells.cons (hon.cell (hC.at 13 rfl) (by simp only; omega)) (RCells.nil _)))))))))))))))
      replace hPW := (hPb w51 hQ).1
      clear G hD
      have G := Gr.refl w51
      have hD := hD2
      clear hD2
      replace hpt := hPW.t
      replace hph := hPW.h
      replace hpb := hPW.b
      replace hpl := hPW.l
      replace hVw18 := hVw18.only hon (by first | omega | (simp only; omega))
      replace hVw23 := hVw23.only hon (by first | omega | (simp only; omega))
      clear hon
      refine Y.nil ?_
      replace F : Fr ac 53 [(2, Vp r2), (3, Vp r3), (6, Vp w14.heap.size), (7, Vp w18.heap.size), (8, Vp ob), (9, Vp b), (10, Vi 2)] := F.sub _
      refine X.blockN (X.thenN ?_)
      refine Y.seq ?_
      refine Y.sg F [(2, Vp r2), (3, Vp r3), (6, Vp w14.heap.size), (7, Vp w18.heap.size), (8, Vp ob), (9, Vp b), (10, Vi 2), (41, .bool true)] (Y.pv F (X.move rfl (F.ev 10 (Vi 2))) fun ac F=>Y.pval F (X.w0 rfl) rfl (X.binop rfl (F.ev 40 (Vi 2)) (X.kc (Vi 0) rfl) (X.gtrI Try.underlying3 (show decide ((0 : Int) < 2) = true by simp))) fun ac F=>Y.fin F) ?_;clear F ac;intro ac F
      refine Y.cT F 41 ?_
      refine Y.lit (by kernel_rfl) ?_
      replace hC := hC.append (show RCells w51 ([(Ad ob 0, .slice oa Ek.length oc)]) from (RCells.cons (hPr.o.cell (k := 0) (by decide)) (RCells.nil _)))
      refine Y.pv4 F (X.load rfl (F.ev 8 (Vp ob)) (X.ld1 (Try.agg45 _) (hC.at 14 rfl))) (fun _ F=>X.field rfl (F.ev 9 (Vp b)) (X.fld Try.underlying102 rfl (Try.siz34 _) rfl rfl)) (fun _ F=>X.load rfl (F.ev 43 (Vp b)) (X.ld1 (Try.agg34 _) (hC.at 8 rfl))) (fun _ F=>X.move rfl (F.ev 10 (Vi 2))) fun ac F=>Y.pv2 F (Y.bd rfl (X.b2 (F.ev 44 (.slice a xs.length c)) (F.ev 45 (Vi 2))) (Try.bd49 _ _ _ _ _)) (fun _ F=>X.bs rfl (X.b1 (F.ev 46 (.agg #[.slice a xs.length c, Vi 2]))) (Try.bs45_1 _ _ _ _ _)) ?_;clear F ac;intro ac F
      have g := Gr.alloc w51 (.cells #[.slice a xs.length c, Vi 2] 49)
      have hg9 := heap_alloc_new w51 (.cells #[.slice a xs.length c, Vi 2] 49)
      generalize w51.alloc (.cells #[.slice a xs.length c, Vi 2] 49) = w52 at *
      replace G := G.trans g
      replace hC := hC.gr g
      replace hpt := hpt.gr g
      replace hph := hph.gr g
      replace hpb := hpb.gr g
      replace hpl := hpl.gr g
      replace hVw18 := hVw18.gr g
      replace hVw23 := hVw23.gr g
      replace hD := hD.gr g
      replace hPr := hPr.gr g
      clear g
      refine Y.wpL_plain rfl fun _ hK => wp_pushV Try.underlying45 Try.info49 rfl (by decide) rfl (F.ev 42 (.slice oa Ek.length oc)) (F.ev 47 (.slice (some ⟨w51.heap.size, 0, none⟩) 1 1)) hPr.r (m := 1) (news := [.slice a xs.length c, Vi 2]) rfl (cells_at (vs := [.slice a xs.length c, Vi 2]) hg9) rfl (by omega) (by decide) hPr.BW (fun v2 w53 hO3 hon hat => hK _ _ ?_)
      refine Y.pput F rfl ?_;clear F ac;intro ac F
      have hPr2 := hPr.push (x := ⟨⟨xs, a, c⟩, 2⟩) (hBeg0.gr G) (fun ad e h => haO ad e (.inr (.inr (.inr h)))) hO3 hon hat
      have hObw := hPr.o.only hon (fun e => by have h1 := (hPr.r.ge e).1; have h2 := hPr.lt.1; omega)
      have hD3 := (hD.only hon (fun h => hdO (.inr (.inr (.inr h)))))
      obtain ⟨oa2, oc2, rfl⟩ := hO3.form
      clear hK hg9
      have hOn3 := hOn2.step2 ((G.only _).trans hon) (fun r e => .inl (.inl (.inr (.inr (.inr e)))))
      have hat3 : ∀ b, (Value.slice oa2 (Ek.length + 1) oc2).ownBlock = some b → (Value.slice oa Ek.length oc).ownBlock = some b ∨ w41.heap.size ≤ b := fun b e => by
       rcases hat with h | h
       ·exact .inl (h ▸ e)
       ·rw [h] at e; injection e with e; have := G.size; have := hOn2.size; exact .inr (by omega)
      clear hPr hD hon hat hO3 G hC
      refine Y.punit F (X.w0 rfl) rfl (X.store rfl (F.ev 8 (Vp ob)) (F.ev 48 (.slice oa2 (Ek.length + 1) oc2)) (hObw.st1 (Try.siz45 _) rfl rfl (by decide))) ?_;clear F ac;intro ac F
      have hon := Y.set_only w53 ob 0 (.slice oa2 (Ek.length + 1) oc2)
      have hD := hD3.only hon (fun h => hdO (.inl h))
      replace hOn2 := hOn3.step2 hon (fun r e => .inl (.inl (.inl e)))
      clear hOn3 hD3
      generalize w53.setCell ⟨ob, 0, none⟩ (.slice oa2 (Ek.length + 1) oc2) = w54 at *
      have G := Gr.refl w54
      clear hon
      have hC : RCells w54 [(Ad ob 0, .slice oa2 (Ek.length + 1) oc2)] := RCells.cons (hPr2.o.cell (k := 0) (by decide)) (RCells.nil _)
      refine Y.nt F [(2, Vp r2), (3, Vp r3), (6, Vp w14.heap.size), (7, Vp w18.heap.size), (8, Vp ob)] ?_;clear F ac;intro ac F
      refine Y.sg F [(2, Vp r2), (3, Vp r3), (6, Vp w14.heap.size), (7, Vp w18.heap.size), (8, Vp ob), (51, .bool (decide ((5000 : Int) < (Ek.length + 1))))] (Y.pv F (X.load rfl (F.ev 8 (Vp ob)) (X.ld1 (Try.agg45 _) (hC.at 0 rfl))) fun ac F=>Y.pv F (X.len1 Try.underlying45 rfl (F.ev 49 (.slice oa2 (Ek.length + 1) oc2))) fun ac F=>Y.pv F (X.binop rfl (F.ev 50 (Vi (Ek.length + 1))) (X.kc (Vi 5000) rfl) (X.gtrI Try.underlying3 rfl)) fun ac F=>Y.fin F) ?_;clear F ac;intro ac F
      cases h55 : decide ((5000 : Int) < (Ek.length + 1)) with
      | false =>
       try rw [h55] at F
       have h55p : ¬ ((5000 : Int) < (Ek.length + 1)) := of_decide_eq_false h55
       refine Y.cF F 51 ?_
       refine Y.skip ?_
       refine X.blockN ?_
       have est : prvF (hopeB p (tim p)) (dearP p) (stripL Ek) xs = _ := prv_d h42 (dear_1 h43p h47p)
       refine ⟨?_, ?_, ?_, ?_⟩
       ·exact hOn2
       ·rw [est]
        refine ⟨_, _, ⟨_, _, stripL_app _ _, hPr2, rfl, rfl, by simp; omega, fun b hb => ?_⟩, fun b e => ?_⟩
        ·obtain ⟨x, hx2, ad, e, rfl⟩ := hb
         rcases List.mem_append.1 hx2 with hx2 | hx2
         ·exact hlim _ ⟨x, hx2, ad, e, rfl⟩
         ·simp at hx2; subst hx2; exact (hBeg.ge ad e).1
        ·rcases e with e | e | e | e
         ·exact .inl (.inl e)
         ·exact .inl (.inr (.inl e))
         ·exact .inl (.inr (.inr (.inl e)))
         ·exact (hat3 b e).imp (fun h => .inr (.inr (.inr h))) (fun h => h)
       ·rw [est]; exact hD
       ·rw [est]; exact decide_eq_true (by omega)
      | true =>
       try rw [h55] at F
       have h55p : ((5000 : Int) < (Ek.length + 1)) := of_decide_eq_true h55
       refine Y.cT F 51 ?_
       refine Y.sl ?_
       have hr2 := hPr2.c2
       have hr3 := hPr2.c3
       refine Y.punit F (X.w0 rfl) rfl (X.store rfl (F.ev 2 (Vp r2)) (X.kc (.slice none 0 0) rfl) (hr2.st1 (Try.siz45 _) rfl rfl (by decide))) ?_;clear F ac;intro ac F
       have hon := Y.set_only w54 r2 0 (.slice none 0 0)
       replace hOn2 := hOn2.step2 ((G.only _).trans hon) (fun r e => .inl (.inl (.inr (.inl e))))
       replace hr3 := hr3.only hon (fun e => hPr2.ne.2.2 e.symm)
       clear G
       generalize w54.setCell ⟨r2, 0, none⟩ (.slice none 0 0) = w56 at *
       have G := Gr.refl w56
       clear hon
       refine Y.punit F (X.w0 rfl) rfl (X.store rfl (F.ev 3 (Vp r3)) (X.kc (Vi 2) rfl) (hr3.st1 (Try.siz31 _) rfl rfl (by decide))) ?_;clear F ac;intro ac F
       have hon := Y.set_only w56 r3 0 (Vi 2)
       replace hOn2 := hOn2.step2 ((G.only _).trans hon) (fun r e => .inl (.inl (.inr (.inr (.inl e)))))
       clear G
       generalize w56.setCell ⟨r3, 0, none⟩ (Vi 2) = w57 at *
       have G := Gr.refl w57
       clear hon
       refine Y.nt F [(2, Vp r2), (3, Vp r3)] ?_;clear F ac;intro ac F
       refine Y.ret ?_
       refine X.blockR ?_
       have est : prvF (hopeB p (tim p)) (dearP p) (stripL Ek) xs = _ := prv_d h42 (dear_1 h43p h47p)
       exact ⟨hOn2, trivial, by rw [est]; exact decide_eq_false (by omega)⟩
   | true =>
    try rw [h42] at F
    refine Y.cT F 25 ?_
    refine Y.lit (by kernel_rfl) ?_
    refine Y.pv F (X.assign rfl (X.kc (Vi 1) rfl)) ?_;clear F ac;intro ac F
    refine Y.nil ?_
    replace F : Fr ac 53 [(2, Vp r2), (3, Vp r3), (6, Vp w14.heap.size), (7, Vp w18.heap.size), (8, Vp ob), (9, Vp b), (10, Vi 1)] := F.sub _
    refine X.blockN (X.thenN ?_)
    refine Y.seq ?_
    refine Y.sg F [(2, Vp r2), (3, Vp r3), (6, Vp w14.heap.size), (7, Vp w18.heap.size), (8, Vp ob), (9, Vp b), (10, Vi 1), (41, .bool true)] (Y.pv F (X.move rfl (F.ev 10 (Vi 1))) fun ac F=>Y.pval F (X.w0 rfl) rfl (X.binop rfl (F.ev 40 (Vi 1)) (X.kc (Vi 0) rfl) (X.gtrI Try.underlying3 (show decide ((0 : Int) < 1) = true by simp))) fun ac F=>Y.fin F) ?_;clear F ac;intro ac F
    refine Y.cT F 41 ?_
    refine Y.lit (by kernel_rfl) ?_
    replace hC := hC.append (show RCells w41 ([(Ad ob 0, .slice oa Ek.length oc)]) from (RCells.cons (hPr.o.cell (k := 0) (by decide)) (RCells.nil _)))
    refine Y.pv4 F (X.load rfl (F.ev 8 (Vp ob)) (X.ld1 (Try.agg45 _) (hC.at 12 rfl))) (fun _ F=>X.field rfl (F.ev 9 (Vp b)) (X.fld Try.underlying102 rfl (Try.siz34 _) rfl rfl)) (fun _ F=>X.load rfl (F.ev 43 (Vp b)) (X.ld1 (Try.agg34 _) (hC.at 8 rfl))) (fun _ F=>X.move rfl (F.ev 10 (Vi 1))) fun ac F=>Y.pv2 F (Y.bd rfl (X.b2 (F.ev 44 (.slice a xs.length c)) (F.ev 45 (Vi 1))) (Try.bd49 _ _ _ _ _)) (fun _ F=>X.bs rfl (X.b1 (F.ev 46 (.agg #[.slice a xs.length c, Vi 1]))) (Try.bs45_1 _ _ _ _ _)) ?_;clear F ac;intro ac F
    have g := Gr.alloc w41 (.cells #[.slice a xs.length c, Vi 1] 49)
    have hg9 := heap_alloc_new w41 (.cells #[.slice a xs.length c, Vi 1] 49)
    generalize w41.alloc (.cells #[.slice a xs.length c, Vi 1] 49) = w58 at *
    replace G := G.trans g
    replace hC := hC.gr g
    replace hpt := hpt.gr g
    replace hph := hph.gr g
    replace hpb := hpb.gr g
    replace hpl := hpl.gr g
    replace hVw18 := hVw18.gr g
    replace hVw23 := hVw23.gr g
    replace hD := hD.gr g
    replace hPr := hPr.gr g
    clear g
    refine Y.wpL_plain rfl fun _ hK => wp_pushV Try.underlying45 Try.info49 rfl (by decide) rfl (F.ev 42 (.slice oa Ek.length oc)) (F.ev 47 (.slice (some ⟨w41.heap.size, 0, none⟩) 1 1)) hPr.r (m := 1) (news := [.slice a xs.length c, Vi 1]) rfl (cells_at (vs := [.slice a xs.length c, Vi 1]) hg9) rfl (by omega) (by decide) hPr.BW (fun v2 w59 hO3 hon hat => hK _ _ ?_)
    refine Y.pput F rfl ?_;clear F ac;intro ac F
    have hPr2 := hPr.push (x := ⟨⟨xs, a, c⟩, 1⟩) (hBeg0.gr G) (fun ad e h => haO ad e (.inr (.inr (.inr h)))) hO3 hon hat
    have hObw := hPr.o.only hon (fun e => by have h1 := (hPr.r.ge e).1; have h2 := hPr.lt.1; omega)
    have hD3 := (hD.only hon (fun h => hdO (.inr (.inr (.inr h)))))
    obtain ⟨oa2, oc2, rfl⟩ := hO3.form
    clear hK hg9
    have hOn3 := hOn2.step2 ((G.only _).trans hon) (fun r e => .inl (.inl (.inr (.inr (.inr e)))))
    have hat3 : ∀ b, (Value.slice oa2 (Ek.length + 1) oc2).ownBlock = some b → (Value.slice oa Ek.length oc).ownBlock = some b ∨ w41.heap.size ≤ b := fun b e => by
     rcases hat with h | h
     ·exact .inl (h ▸ e)
     ·rw [h] at e; injection e with e; have := G.size; have := hOn2.size; exact .inr (by omega)
    clear hPr hD hon hat hO3 G hC
    refine Y.punit F (X.w0 rfl) rfl (X.store rfl (F.ev 8 (Vp ob)) (F.ev 48 (.slice oa2 (Ek.length + 1) oc2)) (hObw.st1 (Try.siz45 _) rfl rfl (by decide))) ?_;clear F ac;intro ac F
    have hon := Y.set_only w59 ob 0 (.slice oa2 (Ek.length + 1) oc2)
    have hD := hD3.only hon (fun h => hdO (.inl h))
    replace hOn2 := hOn3.step2 hon (fun r e => .inl (.inl (.inl e)))
    clear hOn3 hD3
    generalize w59.setCell ⟨ob, 0, none⟩ (.slice oa2 (Ek.length + 1) oc2) = w60 at *
    have G := Gr.refl w60
    clear hon
    have hC : RCells w60 [(Ad ob 0, .slice oa2 (Ek.length + 1) oc2)] := RCells.cons (hPr2.o.cell (k := 0) (by decide)) (RCells.nil _)
    refine Y.nt F [(2, Vp r2), (3, Vp r3), (6, Vp w14.heap.size), (7, Vp w18.heap.size), (8, Vp ob)] ?_;clear F ac;intro ac F
    refine Y.sg F [(2, Vp r2), (3, Vp r3), (6, Vp w14.heap.size), (7, Vp w18.heap.size), (8, Vp ob), (51, .bool (decide ((5000 : Int) < (Ek.length + 1))))] (Y.pv F (X.load rfl (F.ev 8 (Vp ob)) (X.ld1 (Try.agg45 _) (hC.at 0 rfl))) fun ac F=>Y.pv F (X.len1 Try.underlying45 rfl (F.ev 49 (.slice oa2 (Ek.length + 1) oc2))) fun ac F=>Y.pv F (X.binop rfl (F.ev 50 (Vi (Ek.length + 1))) (X.kc (Vi 5000) rfl) (X.gtrI Try.underlying3 rfl)) fun ac F=>Y.fin F) ?_;clear F ac;intro ac F
    cases h61 : decide ((5000 : Int) < (Ek.length + 1)) with
    | false =>
     try rw [h61] at F
     have h61p : ¬ ((5000 : Int) < (Ek.length + 1)) := of_decide_eq_false h61
     refine Y.cF F 51 ?_
     refine Y.skip ?_
     refine X.blockN ?_
     have est : prvF (hopeB p (tim p)) (dearP p) (stripL Ek) xs = _ := prv_h h42
     refine ⟨?_, ?_, ?_, ?_⟩
     ·exact hOn2
     ·rw [est]
      refine ⟨_, _, ⟨_, _, stripL_app _ _, hPr2, rfl, rfl, by simp; omega, fun b hb => ?_⟩, fun b e => ?_⟩
      ·obtain ⟨x, hx2, ad, e, rfl⟩ := hb
       rcases List.mem_append.1 hx2 with hx2 | hx2
       ·exact hlim _ ⟨x, hx2, ad, e, rfl⟩
       ·simp at hx2; subst hx2; exact (hBeg.ge ad e).1
      ·rcases e with e | e | e | e
       ·exact .inl (.inl e)
       ·exact .inl (.inr (.inl e))
       ·exact .inl (.inr (.inr (.inl e)))
       ·exact (hat3 b e).imp (fun h => .inr (.inr (.inr h))) (fun h => h)
     ·rw [est]; exact hD
     ·rw [est]; exact decide_eq_true (by omega)
    | true =>
     try rw [h61] at F
     have h61p : ((5000 : Int) < (Ek.length + 1)) := of_decide_eq_true h61
     refine Y.cT F 51 ?_
     refine Y.sl ?_
     have hr2 := hPr2.c2
     have hr3 := hPr2.c3
     refine Y.punit F (X.w0 rfl) rfl (X.store rfl (F.ev 2 (Vp r2)) (X.kc (.slice none 0 0) rfl) (hr2.st1 (Try.siz45 _) rfl rfl (by decide))) ?_;clear F ac;intro ac F
     have hon := Y.set_only w60 r2 0 (.slice none 0 0)
     replace hOn2 := hOn2.step2 ((G.only _).trans hon) (fun r e => .inl (.inl (.inr (.inl e))))
     replace hr3 := hr3.only hon (fun e => hPr2.ne.2.2 e.symm)
     clear G
     generalize w60.setCell ⟨r2, 0, none⟩ (.slice none 0 0) = w62 at *
     have G := Gr.refl w62
     clear hon
     refine Y.punit F (X.w0 rfl) rfl (X.store rfl (F.ev 3 (Vp r3)) (X.kc (Vi 2) rfl) (hr3.st1 (Try.siz31 _) rfl rfl (by decide))) ?_;clear F ac;intro ac F
     have hon := Y.set_only w62 r3 0 (Vi 2)
     replace hOn2 := hOn2.step2 ((G.only _).trans hon) (fun r e => .inl (.inl (.inr (.inr (.inl e)))))
     clear G
     generalize w62.setCell ⟨r3, 0, none⟩ (Vi 2) = w63 at *
     have G := Gr.refl w63
     clear hon
     refine Y.nt F [(2, Vp r2), (3, Vp r3)] ?_;clear F ac;intro ac F
     refine Y.ret ?_
     refine X.blockR ?_
     have est : prvF (hopeB p (tim p)) (dearP p) (stripL Ek) xs = _ := prv_h h42
     exact ⟨hOn2, trivial, by rw [est]; exact decide_eq_false (by omega)⟩
  ·intro ss O Kp w64 ac hV hQ hK hOs hmk F
   clear G hC
   have hmk := hmk
   have hsw := hQ.size
   have G : Gr w w64 := ((Gl.only (fun b => w.heap.size ≤ b)).trans (hQ.mono' (fun i e => by omega)) |>.gr (fun i hi e => by omega))
   have hC := (RCells.cons (hQ.cell (hCl.at 0 rfl) (by simp only; omega)) (RCells.cons (hQ.cell (hCl.at 1 rfl) (by simp only; omega)) (RCells.cons (hQ.cell (hCl.at 2 rfl) (by simp only; omega)) (RCells.cons (hQ.cell (hCl.at 3 rfl) (by simp only; omega)) (RCells.cons (hQ.cell (hCl.at 4 rfl) (by simp only; omega)) (RCells.cons (hQ.cell (hCl.at 5 rfl) (by simp only; omega)) (RCells.cons (hQ.cell (hCl.at 6 rfl) (by simp only; omega)) (RCells.cons (hQ.cell (hCl.at 7 rfl) (by simp only; omega)) (RCells.nil _)))))))))
   replace hpt := (hP.t).gr G
   replace hph := (hP.h).gr G
   replace hpb := (hP.b).gr G
   replace hpl := (hP.l).gr G
   replace hVw18 := hVw18.only hQ (by first | omega | (simp only; omega))
   replace hVw23 := hVw23.only hQ (by first | omega | (simp only; omega))
   rw [prv_vis hsm] at hV
   injection hV with hV
   obtain ⟨v, Ek, hst, hPr, rfl, rfl, hEl, hlim⟩ := hK
   obtain ⟨oa, oc, rfl⟩ := hPr.r.form
   have hob := hPr.o
   have hr2 := hPr.c2
   have hr3 := hPr.c3
   obtain ⟨hl1, hl2, hl3⟩ := hPr.lt
   obtain ⟨hn1, hn2, hn3⟩ := hPr.ne
   have hfin := Only.refl (fun b => b = r2 ∨ b = r3) w64

   refine X.blockN (X.thenN ?_)
   refine Y.sl ?_
   replace hC := hC.append (show RCells w64 ([(Ad ob 0, .slice oa Ek.length oc)]) from (RCells.cons (hob.cell (k := 0) (by omega)) (RCells.nil _)))
   refine Y.pv F (X.load rfl (F.ev 8 (Vp ob)) (X.ld1 (Try.agg45 _) (hC.at 8 rfl))) fun ac F=>Y.punit F (X.w0 rfl) rfl (X.store rfl (F.ev 2 (Vp r2)) (F.ev 52 (.slice oa Ek.length oc)) (hr2.st1 (Try.siz45 _) rfl rfl (by omega))) ?_;clear F ac;intro ac F
   have hon := Y.set_only w64 r2 0 (.slice oa Ek.length oc)
   have hV2 := hr2.set (k := 0) (.slice oa Ek.length oc)
   replace hV2 := hV2.congr (val' := fun _ => .slice oa Ek.length oc) (fun k hk => if_pos (by omega))
   generalize w64.setCell ⟨r2, 0, none⟩ (.slice oa Ek.length oc) = w66 at *
   replace hr2 : OwnP w66 r2 1 (fun _ => .slice oa Ek.length oc) := hV2
   clear hV2
   replace hmk := (hon.block _ (Array.getElem?_eq_some_iff.1 hmk).1 (by first | omega | (simp only; omega))).trans hmk
   replace hfin := hfin.step2 hon (fun r e => by first | exact .inl (.inl e) | exact .inl (.inr e))
   replace G := Y.Only.up G hon (by omega)
   replace hpt := (hP.t).gr G
   replace hph := (hP.h).gr G
   replace hpb := (hP.b).gr G
   replace hpl := (hP.l).gr G
   replace hVw18 := hVw18.only hon (by show ¬ _ = _; omega)
   replace hVw23 := hVw23.only hon (by show ¬ _ = _; omega)
   replace hob := hob.only hon (by show ¬ _ = _; omega)
   replace hr3 := hr3.only hon (by show ¬ _ = _; omega)
   replace hC := (hC.kc hon 0 rfl (hC.kc hon 1 rfl (hC.kc hon 2 rfl (hC.kc hon 3 rfl (hC.kc hon 4 rfl (hC.kc hon 5 rfl (hC.kc hon 6 rfl (hC.kc hon 7 rfl (RCells.nil _)))))))))
   clear hon
   refine Y.punit F (X.w0 rfl) rfl (X.store rfl (F.ev 3 (Vp r3)) (X.kc (Vi 0) rfl) (hr3.st1 (Try.siz31 _) rfl rfl (by omega))) ?_;clear F ac;intro ac F
   have hon := Y.set_only w66 r3 0 (Vi 0)
   have hV2 := hr3.set (k := 0) (Vi 0)
   replace hV2 := hV2.congr (val' := fun _ => Vi 0) (fun k hk => if_pos (by omega))
   generalize w66.setCell ⟨r3, 0, none⟩ (Vi 0) = w68 at *
   replace hr3 : OwnP w68 r3 1 (fun _ => Vi 0) := hV2
   clear hV2
   replace hmk := (hon.block _ (Array.getElem?_eq_some_iff.1 hmk).1 (by first | omega | (simp only; omega))).trans hmk
   replace hfin := hfin.step2 hon (fun r e => by first | exact .inl (.inl e) | exact .inl (.inr e))
   replace G := Y.Only.up G hon (by omega)
   replace hpt := (hP.t).gr G
   replace hph := (hP.h).gr G
   replace hpb := (hP.b).gr G
   replace hpl := (hP.l).gr G
   replace hVw18 := hVw18.only hon (by show ¬ _ = _; omega)
   replace hVw23 := hVw23.only hon (by show ¬ _ = _; omega)
   replace hob := hob.only hon (by show ¬ _ = _; omega)
   replace hr2 := hr2.only hon (by show ¬ _ = _; omega)
   replace hC := (hC.kc hon 0 rfl (hC.kc hon 1 rfl (hC.kc hon 2 rfl (hC.kc hon 3 rfl (hC.kc hon 4 rfl (hC.kc hon 5 rfl (hC.kc hon 6 rfl (hC.kc hon 7 rfl (RCells.nil _)))))))))
   clear hon
   refine Y.nt F [(2, Vp r2), (3, Vp r3)] ?_;clear F ac;intro ac F
   refine Y.ret ?_
   have hpn : ∀ (x : Nat), x < w34.heap.size → ¬ x = w34.heap.size := fun x h => by omega
   refine ret_mark F hmk (Y.rcc2 F rfl (Try.agg45 _) (Try.agg31 _) (by kernel_rfl) (by kernel_rfl) ((hr2.only (putObj_only _ _ _) (hpn _ hl2)).cell (k := 0) (by decide)) ((hr3.only (putObj_only _ _ _) (hpn _ hl3)).cell (k := 0) (by decide))) (fun W2 hW2 => ?_)
   refine ⟨oa, oc, Ek, by rw [hck], ?_, ?_, ?_, Y.Only.up G hW2 (by omega)⟩
   ·have hRo := hPr.r.only hfin (fun b e h => ?_)
    ·refine lf_own (hRo.only hW2 (fun b e h => ?_)) (fun x hx => ⟨(((hPr.b x hx).only hfin (fun ad e h => ?_)).only hW2 (fun ad e h => ?_)).i, (hPr.b x hx).le⟩)
     ·rcases hOs b (.inr (.inr (.inr e))) with h9 | h9 <;> (first | omega | (simp only at h9 h; omega))
     ·have := ((hPr.b x hx).ge ad e).1; first | omega | (simp only at h; omega)
     ·have := hlim _ ⟨x, hx, ad, e, rfl⟩; first | omega | (simp only at h; omega)
    ·have := (hPr.r.ge e).1; first | omega | (simp only at h; omega)
   ·rw [hst, ← hV, prv_1 hck]
   ·have h9 := prv_len hsm (dear := dearP p); rw [hV, ← hst, stripL_len] at h9; exact h9
  ·exact fun c W A h _ _ _ => by rw [prv_vis hsm] at h; cases h
 | true =>
  try rw [h13] at F
  have h13p : ¬ (chkE p : Int) = 0 := by simpa using h13
  refine Y.cT F 14 ?_
  refine Y.sl ?_
  refine Y.pv F (X.move rfl (F.ev 4 (Vi (chkE p)))) fun ac F=>Y.punit F (X.w0 rfl) rfl (X.store rfl (F.ev 2 (Vp w6.heap.size)) (X.kc (.slice none 0 0) rfl) (hVw8.st1 (Try.siz45 _) rfl rfl (by omega))) ?_;clear F ac;intro ac F
  have hon := Y.set_only w12 w6.heap.size 0 (.slice none 0 0)
  have hV2 := hVw8.set (k := 0) (.slice none 0 0)
  replace hV2 := hV2.congr (val' := fun _ => .slice none 0 0) (fun k hk => if_pos (by omega))
  generalize w12.setCell ⟨w6.heap.size, 0, none⟩ (.slice none 0 0) = w70 at *
  replace hVw8 : OwnP w70 w6.heap.size 1 (fun _ => .slice none 0 0) := hV2
  clear hV2
  replace G := Y.Only.up G hon (by omega)
  replace hpt := (hP.t).gr G
  replace hph := (hP.h).gr G
  replace hpb := (hP.b).gr G
  replace hpl := (hP.l).gr G
  replace hVw11 := hVw11.only hon (by show ¬ _ = _; omega)
  replace hC := (hC.kc hon 0 rfl (hC.kc hon 1 rfl (hC.kc hon 2 rfl (hC.kc hon 3 rfl (RCells.nil _)))))
  clear hon
  refine Y.punit F (X.w0 rfl) rfl (X.store rfl (F.ev 3 (Vp w8.heap.size)) (F.ev 15 (Vi (chkE p))) (hVw11.st1 (Try.siz31 _) rfl rfl (by omega))) ?_;clear F ac;intro ac F
  have hon := Y.set_only w70 w8.heap.size 0 (Vi (chkE p))
  have hV2 := hVw11.set (k := 0) (Vi (chkE p))
  replace hV2 := hV2.congr (val' := fun _ => Vi (chkE p)) (fun k hk => if_pos (by omega))
  generalize w70.setCell ⟨w8.heap.size, 0, none⟩ (Vi (chkE p)) = w72 at *
  replace hVw11 : OwnP w72 w8.heap.size 1 (fun _ => Vi (chkE p)) := hV2
  clear hV2
  replace G := Y.Only.up G hon (by omega)
  replace hpt := (hP.t).gr G
  replace hph := (hP.h).gr G
  replace hpb := (hP.b).gr G
  replace hpl := (hP.l).gr G
  replace hVw8 := hVw8.only hon (by show ¬ _ = _; omega)
  replace hC := (hC.kc hon 0 rfl (hC.kc hon 1 rfl (hC.kc hon 2 rfl (hC.kc hon 3 rfl (RCells.nil _)))))
  clear hon
  refine Y.nt F [(2, Vp w6.heap.size), (3, Vp w8.heap.size)] ?_;clear F ac;intro ac F
  refine Y.ret ?_
  refine X.thenR ?_
  exact Y.ret0 F (Y.rcc2 F rfl (Try.agg45 _) (Try.agg31 _) (by kernel_rfl) (by kernel_rfl) (hVw8.cell (k := 0) (by decide)) (hVw11.cell (k := 0) (by decide))) ⟨none, 0, [], rfl, LfAt.nil _ _, by rw [prv_0 (by omega)]; rfl, by decide, G⟩
end
end Go.Proofs.Ytodedneanlekdaa
