/- Several texts of this claim in one file. (1) Contract: comparing rows leaves the world as it is. (2) Putting in and what is full, without addresses; what lies where behind it. Nothing of the program is proved here. (3) Contracts: full and put. (4) The first allowed plans: what a round does to them. Nothing of the program is proved here. -/
import Derived.Test.YtodedneanlekdaaBd10
import Derived.Test.YtodedneanlekdaaBd3
import Derived.Test.YtodedneanlekdaaBd9
namespace Go.Proofs.Ytodedneanlekdaa
set_option linter.unusedSimpArgs false
set_option linter.unusedVariables false
section
open Go.RowKit

set_option maxRecDepth 100000 in
set_option maxHeartbeats 400000 in
theorem nan_same (x : Int) (w : World) :
  Calls Try.prog 129 #[Vi x] w fun e w' => e = .returned (.bool false) ∧ w' = w := by
 have G := Gr.refl w
 refine Y.calls 6 Try.func129 rfl rfl ?_
 intro ac F0
 have F : Fr ac 6 [(0, Vi x)] := F0.sub _
 clear F0
 refine Y.sg F [(0, Vi x)] (Y.pv F (X.assign rfl (X.kc (.bool false) rfl)) fun ac F=>Y.fin F) ?_;clear F ac;intro ac F
 refine Y.sg F [(2, .bool false)] (Y.pv F (X.move rfl (F.ev 0 (Vi x))) fun ac F=>Y.pv F (X.move rfl (F.ev 0 (Vi x))) fun ac F=>Y.pval F (X.w0 rfl) rfl (X.binop rfl (F.ev 3 (Vi x)) (F.ev 4 (Vi x)) (X.neqI Try.underlying3 (show ((x : Int) != x) = false by simp))) fun ac F=>Y.pv F (X.assign rfl (F.ev 5 (.bool false))) fun ac F=>Y.fin F) ?_;clear F ac;intro ac F
 refine Y.ret ?_
 exact Y.ret0 (v := .bool false) F (Y.r1 F) ⟨rfl, rfl⟩
set_option maxRecDepth 100000 in
set_option maxHeartbeats 400000 in
theorem compare_same (x y : Int) (w : World) :
  Calls Try.prog 113 #[Vi x, Vi y] w fun e w' => e = .returned (Vi (cmpI x y)) ∧ w' = w := by
 have G := Gr.refl w
 refine Y.calls 20 Try.func113 rfl rfl ?_
 intro ac F0
 have F : Fr ac 20 [(0, Vi x), (1, Vi y)] := F0.sub _
 clear F0
 refine Y.sg F [(0, Vi x), (1, Vi y)] (Y.pv F (X.assign rfl (X.kc (Vi 0) rfl)) fun ac F=>Y.fin F) ?_;clear F ac;intro ac F
 refine Y.sl ?_
 refine Y.pv F (X.move rfl (F.ev 0 (Vi x))) fun ac F=>Y.pc F 129 (X.a1 (F.ev 7 (Vi x))) Try.func129 (nan_same x w) ?_
 clear F ac
 rintro e w' ⟨rfl, hw_⟩
 obtain rfl : w = w' := hw_.symm
 clear hw_
 refine ⟨_, rfl, ?_⟩
 intro ac F
 refine Y.pv F (X.assign rfl (F.ev 8 (.bool false))) ?_;clear F ac;intro ac F
 refine Y.nt F [(0, Vi x), (1, Vi y), (5, .bool false)] ?_;clear F ac;intro ac F
 refine Y.sl ?_
 refine Y.pv F (X.move rfl (F.ev 1 (Vi y))) fun ac F=>Y.pc F 129 (X.a1 (F.ev 9 (Vi y))) Try.func129 (nan_same y w) ?_
 clear F ac
 rintro e w' ⟨rfl, hw_⟩
 obtain rfl : w = w' := hw_.symm
 clear hw_
 refine ⟨_, rfl, ?_⟩
 intro ac F
 refine Y.pv F (X.assign rfl (F.ev 10 (.bool false))) ?_;clear F ac;intro ac F
 refine Y.nt F [(0, Vi x), (1, Vi y), (5, .bool false), (6, .bool false)] ?_;clear F ac;intro ac F
 refine Y.seq ?_
 refine Y.sg F [(0, Vi x), (1, Vi y), (6, .bool false), (11, .bool false)] (Y.pv F (X.move rfl (F.ev 5 (.bool false))) fun ac F=>Y.fin F) ?_;clear F ac;intro ac F
 refine Y.cF F 11 ?_
 refine Y.skip ?_
 refine X.thenN ?_
 refine Y.seq ?_
 refine Y.sg F [(0, Vi x), (1, Vi y), (13, .bool false)] (Y.pv F (X.move rfl (F.ev 6 (.bool false))) fun ac F=>Y.fin F) ?_;clear F ac;intro ac F
 refine Y.cF F 13 ?_
 refine Y.skip ?_
 refine X.thenN ?_
 refine Y.seq ?_
 refine Y.sg F [(0, Vi x), (1, Vi y), (16, .bool (decide ((x : Int) < y)))] (Y.pv F (X.move rfl (F.ev 0 (Vi x))) fun ac F=>Y.pv F (X.move rfl (F.ev 1 (Vi y))) fun ac F=>Y.pv F (X.binop rfl (F.ev 14 (Vi x)) (F.ev 15 (Vi y)) (X.lssI Try.underlying3 rfl)) fun ac F=>Y.fin F) ?_;clear F ac;intro ac F
 cases h3 : decide ((x : Int) < y) with
 | false =>
  try rw [h3] at F
  have h3p : ¬ ((x : Int) < y) := of_decide_eq_false h3
  refine Y.cF F 16 ?_
  refine Y.skip ?_
  refine X.thenN ?_
  refine Y.seq ?_
  refine Y.sg F [(19, .bool (decide ((y : Int) < x)))] (Y.pv F (X.move rfl (F.ev 0 (Vi x))) fun ac F=>Y.pv F (X.move rfl (F.ev 1 (Vi y))) fun ac F=>Y.pv F (X.binop rfl (F.ev 17 (Vi x)) (F.ev 18 (Vi y)) (X.gtrI Try.underlying3 rfl)) fun ac F=>Y.fin F) ?_;clear F ac;intro ac F
  cases h4 : decide ((y : Int) < x) with
  | false =>
   try rw [h4] at F
   have h4p : ¬ ((y : Int) < x) := of_decide_eq_false h4
   refine Y.cF F 19 ?_
   refine Y.skip ?_
   refine X.thenN ?_
   refine Y.sk F 4 (Vi 0) ?_;clear F ac;intro ac F
   refine Y.ret ?_
   exact Y.ret0 (v := Vi 0) F (Y.r1 F) ⟨by rw [show cmpI x y = 0 from (if_neg (by omega)).trans (if_neg (by omega))], rfl⟩
  | true =>
   try rw [h4] at F
   have h4p : ((y : Int) < x) := of_decide_eq_true h4
   refine Y.cT F 19 ?_
   refine Y.sk F 4 (Vi 1) ?_;clear F ac;intro ac F
   refine Y.ret ?_
   refine X.thenR ?_
   exact Y.ret0 (v := Vi 1) F (Y.r1 F) ⟨by rw [show cmpI x y = 1 from (if_neg (by omega)).trans (if_pos (by omega))], rfl⟩
 | true =>
  try rw [h3] at F
  have h3p : ((x : Int) < y) := of_decide_eq_true h3
  refine Y.cT F 16 ?_
  refine Y.sg F [(4, Vi (-1))] (Y.pv F (X.assign rfl (X.kc (Vi (-1)) rfl)) fun ac F=>Y.fin F) ?_;clear F ac;intro ac F
  refine Y.ret ?_
  refine X.thenR ?_
  exact Y.ret0 (v := Vi (-1)) F (Y.r1 F) ⟨by rw [show cmpI x y = (-1) from if_pos (by omega)], rfl⟩
set_option maxRecDepth 100000 in
set_option maxHeartbeats 400000 in
theorem cmpL_same (a b : Option Addr) (c d : Nat) (xs ys : List Int) (w : World) (hX : Ints w a xs.length xs) (hY : Ints w b ys.length ys) :
  Calls Try.prog 90 #[.slice a xs.length c, .slice b ys.length d] w fun e w' => e = .returned (Vi (cmpL xs ys)) ∧ w' = w := by
 have G := Gr.refl w
 have hx := hX
 have hy := hY
 have hxl := hx.lt
 have hyl := hy.lt
 refine Y.calls 36 Try.func90 rfl rfl ?_
 intro ac F0
 have F : Fr ac 36 [(0, .slice a xs.length c), (1, .slice b ys.length d)] := F0.sub _
 clear F0
 refine Y.sg F [(0, .slice a xs.length c), (1, .slice b ys.length d)] (Y.pv F (X.assign rfl (X.kc (Vi 0) rfl)) fun ac F=>Y.fin F) ?_;clear F ac;intro ac F
 refine Y.seq ?_
 refine Y.sg F [(0, .slice a xs.length c), (1, .slice b ys.length d), (9, .slice a xs.length c), (10, Vi xs.length), (11, Vi 0)] (Y.pv F (X.move rfl (F.ev 0 (.slice a xs.length c))) fun ac F=>Y.pv F (X.len1 Try.underlying34 rfl (F.ev 9 (.slice a xs.length c))) fun ac F=>Y.pv F (X.move rfl (X.kc (Vi 0) rfl)) fun ac F=>Y.fin F) ?_;clear F ac;intro ac F
 refine Y.block ?_
 refine Y.loop (fun me_ ac wr => ∃ (k : Nat), me_ = xs.length - k ∧ Only (fun b => False) w wr ∧ k ≤ xs.length ∧ k ≤ ys.length ∧ cmpL xs ys = cmpL (xs.drop k) (ys.drop k) ∧ wr = w ∧ Fr ac 36 [(0, .slice a xs.length c), (1, .slice b ys.length d), (9, .slice a xs.length c), (10, Vi xs.length), (11, Vi k)]) _ ⟨0, rfl, Only.refl _ _, Nat.zero_le _, Nat.zero_le _, rfl, rfl, F.sub _⟩ ?_
 have hxB1 := hx
 have hyB1 := hy
 have GB1 := G
 clear F ac
 intro me_ ac w3 hI
 obtain ⟨k, rfl, hO1, hk, hm, HC, hww, F⟩ := hI
 replace G := GB1.trans (hO1.gr (fun _ _ h => h))
 replace hx := (hX).gr G
 replace hy := (hY).gr G
 obtain rfl : w = w3 := hww.symm
 refine Y.sg F [(0, .slice a xs.length c), (1, .slice b ys.length d), (9, .slice a xs.length c), (10, Vi xs.length), (11, Vi k), (12, .bool (decide ((k : Int) < xs.length)))] (Y.pv F (X.binop rfl (F.ev 11 (Vi k)) (F.ev 10 (Vi xs.length)) (X.lssI Try.underlying3 rfl)) fun ac F=>Y.fin F) ?_;clear F ac;intro ac F
 refine Y.seq ?_
 cases h4 : decide ((k : Int) < xs.length) with
 | false =>
  try rw [h4] at F
  have h4p : ¬ ((k : Int) < xs.length) := of_decide_eq_false h4
  have hkn : k = xs.length := by omega
  refine Y.cF F 12 ?_
  refine Y.exit ?_
  refine X.thenX (X.thenX (X.blockX (X.thenN ?_)))
  refine Y.seq ?_
  refine Y.sg F [(35, .bool (decide ((xs.length : Int) < ys.length)))] (Y.pv F (X.move rfl (F.ev 0 (.slice a xs.length c))) fun ac F=>Y.pv F (X.len1 Try.underlying34 rfl (F.ev 31 (.slice a xs.length c))) fun ac F=>Y.pv F (X.move rfl (F.ev 1 (.slice b ys.length d))) fun ac F=>Y.pv F (X.len1 Try.underlying34 rfl (F.ev 33 (.slice b ys.length d))) fun ac F=>Y.pv F (X.binop rfl (F.ev 32 (Vi xs.length)) (F.ev 34 (Vi ys.length)) (X.lssI Try.underlying3 rfl)) fun ac F=>Y.fin F) ?_;clear F ac;intro ac F
  cases h5 : decide ((xs.length : Int) < ys.length) with
  | false =>
   try rw [h5] at F
   have h5p : ¬ ((xs.length : Int) < ys.length) := of_decide_eq_false h5
   have HR : cmpL xs ys = 0 := by rw [HC]; exact cmp_0 hkn (by omega)
   refine Y.cF F 35 ?_
   refine Y.skip ?_
   refine X.thenN ?_
   refine Y.sk F 4 (Vi 0) ?_;clear F ac;intro ac F
   refine Y.ret ?_
   exact Y.ret0 (v := Vi 0) F (Y.r1 F) ⟨by rw [HR], rfl⟩
  | true =>
   try rw [h5] at F
   have h5p : ((xs.length : Int) < ys.length) := of_decide_eq_true h5
   have HR : cmpL xs ys = -1 := by rw [HC]; exact cmp_lt hkn (by omega)
   refine Y.cT F 35 ?_
   refine Y.sg F [(4, Vi (-1))] (Y.pv F (X.assign rfl (X.kc (Vi (-1)) rfl)) fun ac F=>Y.fin F) ?_;clear F ac;intro ac F
   refine Y.ret ?_
   refine X.thenR ?_
   exact Y.ret0 (v := Vi (-1)) F (Y.r1 F) ⟨by rw [HR], rfl⟩
 | true =>
  try rw [h4] at F
  have h4p : ((k : Int) < xs.length) := of_decide_eq_true h4
  have hlt : k < xs.length := by omega
  refine Y.cT F 12 ?_
  refine Y.skip ?_
  refine X.thenN ?_
  refine Y.seq ?_
  refine Y.block ?_
  refine Y.sl ?_
  refine Y.pv F (X.move rfl (F.ev 11 (Vi k))) ?_;clear F ac;intro ac F
  obtain ⟨pd6, pe6, -, pc6⟩ := hx.at (j := k) (by omega)
  subst pe6
  have hC : RCells w [(pd6.add k, Vi (xs[k]?.getD 0))] := (RCells.cons pc6 (RCells.nil _))
  clear pc6
  refine Y.pval F (X.w0 rfl) rfl (X.index rfl (F.ev 9 (.slice (some pd6) xs.length c)) (F.ev 11 (Vi k)) (X.idx (k := k) Try.underlying34 (Try.siz3 _) (by omega) (by omega) (by rw [Nat.mul_one]))) fun ac F=>Y.pv3 F (X.load rfl (F.ev 14 (.pointer (some (pd6.add k)))) (X.ld1 (Try.agg3 _) (hC.at 0 rfl))) (fun _ F=>X.assign rfl (F.ev 13 (Vi k))) (fun _ F=>X.assign rfl (F.ev 15 (Vi (xs[k]?.getD 0)))) ?_;clear F ac;intro ac F
  refine Y.nt F [(0, .slice (some pd6) xs.length c), (1, .slice b ys.length d), (5, Vi k), (6, Vi (xs[k]?.getD 0)), (9, .slice (some pd6) xs.length c), (10, Vi xs.length), (11, Vi k)] ?_;clear F ac;intro ac F
  refine Y.seq ?_
  refine Y.sg F [(0, .slice (some pd6) xs.length c), (1, .slice b ys.length d), (5, Vi k), (6, Vi (xs[k]?.getD 0)), (9, .slice (some pd6) xs.length c), (10, Vi xs.length), (11, Vi k), (19, .bool (decide ((ys.length : Int) ≤ k)))] (Y.pv F (X.move rfl (F.ev 5 (Vi k))) fun ac F=>Y.pv F (X.move rfl (F.ev 1 (.slice b ys.length d))) fun ac F=>Y.pv F (X.len1 Try.underlying34 rfl (F.ev 17 (.slice b ys.length d))) fun ac F=>Y.pv F (X.binop rfl (F.ev 16 (Vi k)) (F.ev 18 (Vi ys.length)) (X.geqI Try.underlying3 rfl)) fun ac F=>Y.fin F) ?_;clear F ac;intro ac F
  cases h7 : decide ((ys.length : Int) ≤ k) with
  | false =>
   try rw [h7] at F
   have h7p : ¬ ((ys.length : Int) ≤ k) := of_decide_eq_false h7
   have hlm : k < ys.length := by omega
   refine Y.cF F 19 ?_
   refine Y.skip ?_
   refine X.thenN ?_
   refine Y.sl ?_
   refine Y.pv2 F (X.move rfl (F.ev 1 (.slice b ys.length d))) (fun _ F=>X.move rfl (F.ev 5 (Vi k))) ?_;clear F ac;intro ac F
   obtain ⟨pd8, pe8, -, pc8⟩ := hy.at (j := k) (by omega)
   subst pe8
   replace hC := hC.append (show RCells w ([(pd8.add k, Vi (ys[k]?.getD 0))]) from (RCells.cons pc8 (RCells.nil _)))
   clear pc8
   refine Y.pval F (X.w0 rfl) rfl (X.index rfl (F.ev 20 (.slice (some pd8) ys.length d)) (F.ev 21 (Vi k)) (X.idx (k := k) Try.underlying34 (Try.siz3 _) (by omega) (by omega) (by rw [Nat.mul_one]))) fun ac F=>Y.pv2 F (X.load rfl (F.ev 22 (.pointer (some (pd8.add k)))) (X.ld1 (Try.agg3 _) (hC.at 1 rfl))) (fun _ F=>X.assign rfl (F.ev 23 (Vi (ys[k]?.getD 0)))) ?_;clear F ac;intro ac F
   refine Y.nt F [(0, .slice (some pd6) xs.length c), (1, .slice (some pd8) ys.length d), (6, Vi (xs[k]?.getD 0)), (7, Vi (ys[k]?.getD 0)), (9, .slice (some pd6) xs.length c), (10, Vi xs.length), (11, Vi k)] ?_;clear F ac;intro ac F
   refine Y.sl ?_
   refine Y.pv2 F (X.move rfl (F.ev 6 (Vi (xs[k]?.getD 0)))) (fun _ F=>X.move rfl (F.ev 7 (Vi (ys[k]?.getD 0)))) fun ac F=>Y.pc F 113 (X.a2 (F.ev 24 (Vi (xs[k]?.getD 0))) (F.ev 25 (Vi (ys[k]?.getD 0)))) Try.func113 (compare_same (xs[k]?.getD 0) (ys[k]?.getD 0) w) ?_
   clear F ac
   rintro e w' ⟨rfl, hw_⟩
   obtain rfl : w = w' := hw_.symm
   clear hw_
   refine ⟨_, rfl, ?_⟩
   intro ac F
   refine Y.pv F (X.assign rfl (F.ev 26 (Vi (cmpI (xs[k]?.getD 0) (ys[k]?.getD 0))))) ?_;clear F ac;intro ac F
   refine Y.nt F [(0, .slice (some pd6) xs.length c), (1, .slice (some pd8) ys.length d), (8, Vi (cmpI (xs[k]?.getD 0) (ys[k]?.getD 0))), (9, .slice (some pd6) xs.length c), (10, Vi xs.length), (11, Vi k)] ?_;clear F ac;intro ac F
   refine Y.sg F [(0, .slice (some pd6) xs.length c), (1, .slice (some pd8) ys.length d), (8, Vi (cmpI (xs[k]?.getD 0) (ys[k]?.getD 0))), (9, .slice (some pd6) xs.length c), (10, Vi xs.length), (11, Vi k), (28, .bool ((cmpI (xs[k]?.getD 0) (ys[k]?.getD 0) : Int) != 0))] (Y.pv F (X.move rfl (F.ev 8 (Vi (cmpI (xs[k]?.getD 0) (ys[k]?.getD 0))))) fun ac F=>Y.pv F (X.binop rfl (F.ev 27 (Vi (cmpI (xs[k]?.getD 0) (ys[k]?.getD 0)))) (X.kc (Vi 0) rfl) (X.neqI Try.underlying3 rfl)) fun ac F=>Y.fin F) ?_;clear F ac;intro ac F
   cases h9 : ((cmpI (xs[k]?.getD 0) (ys[k]?.getD 0) : Int) != 0) with
   | false =>
    try rw [h9] at F
    have h9p : (cmpI (xs[k]?.getD 0) (ys[k]?.getD 0) : Int) = 0 := by simpa using h9
    have HC2 : cmpL xs ys = cmpL (xs.drop (k + 1)) (ys.drop (k + 1)) := by rw [HC]; exact cmp_eq hlt hlm h9p
    refine Y.cF F 28 ?_
    refine Y.skip ?_
    refine X.blockN (X.thenN ?_)
    refine Y.lg F [(0, .slice (some pd6) xs.length c), (1, .slice (some pd8) ys.length d), (9, .slice (some pd6) xs.length c), (10, Vi xs.length), (11, Vi ((k : Int) + 1))] (by
     refine Y.pv F (X.binop rfl (F.ev 11 (Vi k)) (X.kc (Vi 1) rfl) (X.addI Try.underlying3 rfl (by omega) (by omega))) fun ac F=>?_
     refine Y.pv F (X.move rfl (F.ev 30 (Vi ((k : Int) + 1)))) fun ac F=>?_
     exact Y.fin F) ?_;clear F ac;intro ac F
    refine ⟨_, ?_, k + 1, rfl, hO1, by omega, by omega, HC2, rfl, F.sub _⟩
    omega
   | true =>
    try rw [h9] at F
    have h9p : ¬ (cmpI (xs[k]?.getD 0) (ys[k]?.getD 0) : Int) = 0 := by simpa using h9
    have HR : cmpL xs ys = cmpI (xs[k]?.getD 0) (ys[k]?.getD 0) := by rw [HC]; exact cmp_ne hlt hlm h9p
    refine Y.cT F 28 ?_
    refine Y.sg F [(4, Vi (cmpI (xs[k]?.getD 0) (ys[k]?.getD 0)))] (Y.pv F (X.move rfl (F.ev 8 (Vi (cmpI (xs[k]?.getD 0) (ys[k]?.getD 0))))) fun ac F=>Y.pv F (X.assign rfl (F.ev 29 (Vi (cmpI (xs[k]?.getD 0) (ys[k]?.getD 0))))) fun ac F=>Y.fin F) ?_;clear F ac;intro ac F
    refine Y.ret ?_
    refine X.blockR (X.thenR (X.thenR (X.blockR (X.thenR ?_))))
    exact Y.ret0 (v := Vi (cmpI (xs[k]?.getD 0) (ys[k]?.getD 0))) F (Y.r1 F) ⟨by rw [HR], rfl⟩
  | true =>
   try rw [h7] at F
   have h7p : ((ys.length : Int) ≤ k) := of_decide_eq_true h7
   have HR : cmpL xs ys = 1 := by rw [HC]; exact cmp_1 hlt (by omega)
   refine Y.cT F 19 ?_
   refine Y.sk F 4 (Vi 1) ?_;clear F ac;intro ac F
   refine Y.ret ?_
   refine X.thenR (X.blockR (X.thenR (X.thenR (X.blockR (X.thenR ?_)))))
   exact Y.ret0 (v := Vi 1) F (Y.r1 F) ⟨by rw [HR], rfl⟩
end
section
set_option linter.unusedVariables false
open Go.RowKit
def strip (L : RkL) : List ((Int × Int) × List Int) := L.map fun x => (x.1, x.2.xs)
theorem strip_len (L : RkL) : (strip L).length = L.length := by simp [strip]
theorem strip_get (L : RkL) (i : Nat) : (strip L)[i]? = (L[i]?).map fun x => (x.1, x.2.xs) := by simp [strip]
theorem strip_full (L : RkL) (most : Nat) (k : Int × Int) : fullR most (strip L) k = fullR most L k := by
  unfold fullR
  rw [strip_len, strip_get]
  cases L[most - 1]? <;> rfl
theorem strip_pos (L : RkL) (k : Int × Int) : ∀ n, posR (strip L) k n = posR L k n := by
  intro n
  induction n with
  | zero => rfl
  | succ n ih =>
    unfold posR
    rw [strip_get]
    cases L[n]? with
    | none => rfl
    | some y => simp only [Option.map_some, ih]
theorem strip_ins (L : RkL) (i : Nat) (x : (Int × Int) × BegE) : strip (insAt L i x) = insAt (strip L) i (x.1, x.2.xs) := by
  unfold insAt strip
  simp [List.map_take, List.map_drop]
theorem strip_put (L : RkL) (most : Nat) (x : (Int × Int) × BegE) : strip (putR most L x) = putR most (strip L) (x.1, x.2.xs) := by
  unfold putR
  rw [strip_full]
  split
  · rfl
  · unfold insR
    rw [strip_len, strip_pos, ← strip_ins]
    unfold strip
    rw [List.map_take]
theorem full_no {L : RkL} {most : Nat} {k : Int × Int} (h : ¬ L.length = most) : fullR most L k = false := by unfold fullR; rw [decide_eq_false h]; rfl
theorem full_1 {L : RkL} {most : Nat} {k : Int × Int} {y : (Int × Int) × BegE} (h : L.length = most) (hy : L[most - 1]? = some y) : fullR most L k = !ltK k y.1 := by unfold fullR; rw [decide_eq_true h, hy]; rfl
theorem pos_lt {L : RkL} {k : Int × Int} {y : (Int × Int) × BegE} {i : Nat} (h0 : 0 < i) (hy : L[i - 1]? = some y) (h : ltK k y.1 = true) : posR L k i = posR L k (i - 1) := by
  obtain ⟨j, rfl⟩ : ∃ j, i = j + 1 := ⟨i - 1, by omega⟩
  simp only [Nat.add_sub_cancel] at hy ⊢
  rw [posR, hy]; simp [h]
theorem pos_ge {L : RkL} {k : Int × Int} {y : (Int × Int) × BegE} {i : Nat} (h0 : 0 < i) (hy : L[i - 1]? = some y) (h : ltK k y.1 = false) : posR L k i = i := by
  obtain ⟨j, rfl⟩ : ∃ j, i = j + 1 := ⟨i - 1, by omega⟩
  simp only [Nat.add_sub_cancel] at hy ⊢
  rw [posR, hy]; simp [h]
theorem put_full {L : RkL} {most : Nat} {x : (Int × Int) × BegE} (h : fullR most L x.1 = true) : putR most L x = L := by unfold putR; rw [if_pos h]
theorem put_in {L : RkL} {most i : Nat} {x : (Int × Int) × BegE} (h : fullR most L x.1 = false) (hi : posR L x.1 L.length = i) : putR most L x = (insAt L i x).take most := by
  unfold putR insR; rw [if_neg (by rw [h]; decide), hi]
theorem ins_len {L : RkL} {i : Nat} {x : (Int × Int) × BegE} (hi : i ≤ L.length) : (insAt L i x).length = L.length + 1 := by
  unfold insAt; simp; omega
theorem ins_mem {L : RkL} {i : Nat} {x y : (Int × Int) × BegE} (h : y ∈ insAt L i x) : y = x ∨ y ∈ L := by
  unfold insAt at h
  rw [List.mem_append, List.mem_cons] at h
  rcases h with h | h | h
  · exact .inr (List.mem_of_mem_take h)
  · exact .inl h
  · exact .inr (List.mem_of_mem_drop h)
/-- the key of an entry, in memory -/
theorem key_ints {W : World} {B g n c i : Nat} {L : RkL} {y : (Int × Int) × BegE} (h : OwnR W B 92 2 (.slice (some ⟨g, 0, none⟩) n c) n (keysV L)) (hn : L.length = n) (hy : L[i]? = some y) : Ints W (some ⟨g, i * 2, none⟩) 2 [y.1.1, y.1.2] := by
  have hi : i < L.length := (List.getElem?_eq_some_iff.1 hy).1
  have hO := h.ownP (val := fun j => (keysV L)[j]?.getD undef) (fun j u hu => by rw [hu]; rfl)
  obtain ⟨k1, k2⟩ := keys_get L i y hy
  have c1 := hO.cell (k := i * 2) (by omega)
  have c2 := hO.cell (k := i * 2 + 1) (by omega)
  simp only [k1, k2, Option.getD_some] at c1 c2
  refine ⟨rfl, by decide, fun j hj => ⟨_, rfl, hO.lt, ?_⟩⟩
  rw [add_lit]
  match j, hj with
  | 0, _ => exact c1
  | 1, _ => exact c2
/-- behind the putting in -/
theorem RkAt.ins {w W : World} {rb B most i : Nat} {kv lv kv2 lv2 : Value} {L : RkL} {x : (Int × Int) × BegE} (h : RkAt w rb B most kv lv L) (hi : i ≤ L.length) (hx : BegAt w B x.2.a x.2.c x.2.xs) (hxO : ∀ ad, x.2.a = some ad → ¬ RkO rb kv lv ad.block)
    (o : Only (RkO rb kv lv) w W) (hk : OwnR W B 92 2 kv2 (L.length + 1) (keysV (insAt L i x))) (hl : OwnR W B 34 1 lv2 (L.length + 1) (begsV (insAt L i x))) (hk2 : kv2.ownBlock = kv.ownBlock ∨ ∃ y, kv2.ownBlock = some y ∧ w.heap.size ≤ y) (hl2 : lv2.ownBlock = lv.ownBlock ∨ ∃ y, lv2.ownBlock = some y ∧ w.heap.size ≤ y)
    (hkl : ∀ y, kv2.ownBlock = some y → lv2.ownBlock ≠ some y) (ho : OwnP W rb 3 (VL [.int .i64 most, kv2, lv2])) :
    RkAt W rb B most kv2 lv2 (insAt L i x) ∧ (∀ b, RkO rb kv2 lv2 b → RkO rb kv lv b ∨ w.heap.size ≤ b) := by
  have hb : ∀ y ∈ insAt L i x, ∀ ad, y.2.a = some ad → ¬ RkO rb kv lv ad.block ∧ ad.block < w.heap.size := by
    intro y hy ad e
    rcases ins_mem hy with rfl | hy
    · exact ⟨hxO ad e, (hx.ge ad e).2⟩
    · obtain ⟨k1, k2⟩ := h.kb y hy ad e
      have := (h.b y hy).ge ad e
      have hr := h.rB
      exact ⟨by rintro (e | e | e) <;> first | omega | exact k1 e | exact k2 e, this.2⟩
  refine ⟨⟨ho, by rw [ins_len hi]; exact hk, by rw [ins_len hi]; exact hl, fun y hy => ?_, hkl, fun y hy ad e => ?_, h.rB, Nat.le_trans h.BW o.size⟩, ?_⟩
  · have hy0 : BegAt w B y.2.a y.2.c y.2.xs := by
      rcases ins_mem hy with rfl | hy
      · exact hx
      · exact h.b y hy
    exact hy0.only o (fun ad e => (hb y hy ad e).1)
  · obtain ⟨k1, k2⟩ := hb y hy ad e
    constructor
    · intro k
      rcases hk2 with e2 | ⟨z, e2, hz⟩
      · exact k1 (.inr (.inl (e2 ▸ k)))
      · rw [e2] at k; injection k with k; omega
    · intro k
      rcases hl2 with e2 | ⟨z, e2, hz⟩
      · exact k1 (.inr (.inr (e2 ▸ k)))
      · rw [e2] at k; injection k with k; omega
  · rintro b (e | e | e)
    · exact .inl (.inl e)
    · rcases hk2 with e2 | ⟨z, e2, hz⟩
      · exact .inl (.inr (.inl (e2 ▸ e)))
      · rw [e2] at e; injection e with e; exact .inr (by omega)
    · rcases hl2 with e2 | ⟨z, e2, hz⟩
      · exact .inl (.inr (.inr (e2 ▸ e)))
      · rw [e2] at e; injection e with e; exact .inr (by omega)
/-- the first ones of them -/
theorem RkAt.take {W W' : World} {rb B most m kc lc : Nat} {ka la : Option Addr} {L : RkL} (h : RkAt W rb B most (.slice ka L.length kc) (.slice la L.length lc) L) (hm : m ≤ L.length) (h0 : 0 < m) (o : Only (fun x => x = rb) W W') (ho : OwnP W' rb 3 (VL [.int .i64 most, .slice ka m kc, .slice la m lc])) : RkAt W' rb B most (.slice ka m kc) (.slice la m lc) (L.take m) := by
  have hl : (L.take m).length = m := by rw [List.length_take]; omega
  have hr := h.rB
  have e1 : ∀ n, (Value.slice ka n kc).ownBlock = (Value.slice ka L.length kc).ownBlock := fun n => by cases ka <;> rfl
  have e2 : ∀ n, (Value.slice la n lc).ownBlock = (Value.slice la L.length lc).ownBlock := fun n => by cases la <;> rfl
  refine ⟨ho, ?_, ?_, fun x hx => (h.b x (List.mem_of_mem_take hx)).only o (fun ad e => by have := ((h.b x (List.mem_of_mem_take hx)).ge ad e).1; omega), fun x hx => ?_, fun x hx ad e => ?_, h.rB, Nat.le_trans h.BW o.size⟩
  · rw [hl, ← keys_take L m hm]
    exact (h.k.take hm h0).only o (fun b e => by have := (h.k.ge (b := b) (by rw [← e1 m]; exact e)).1; omega)
  · rw [hl]
    have : begsV (L.take m) = (begsV L).take (m * 1) := by unfold begsV; rw [Nat.mul_one, List.map_take]
    rw [this]
    exact (h.l.take hm h0).only o (fun b e => by have := (h.l.ge (b := b) (by rw [← e2 m]; exact e)).1; omega)
  · rw [e2]; exact h.kl x (by rw [← e1 m]; exact hx)
  · rw [e1, e2]; exact h.kb x (List.mem_of_mem_take hx) ad e
end
section
open Go.RowKit

theorem Try.bs89 (x y : Int) (w : World) : (Instr.buildSlice 89 1 #[(0, .agg #[.int .i64 x, .int .i64 y])]).run Try.prog w = .ok (.slice (some ⟨w.heap.size, 0, none⟩) 1 1) (w.alloc (.cells #[.int .i64 x, .int .i64 y] 92)) := by kernel_rfl
theorem Try.bs38 (a : Option Addr) (n c : Nat) (w : World) : (Instr.buildSlice 38 1 #[(0, .slice a n c)]).run Try.prog w = .ok (.slice (some ⟨w.heap.size, 0, none⟩) 1 1) (w.alloc (.cells #[.slice a n c] 34)) := by kernel_rfl
theorem RkO.len {rb b n m n2 m2 c c2 : Nat} {a a2 : Option Addr} (h : RkO rb (.slice a n c) (.slice a2 n2 c2) b) : RkO rb (.slice a m c) (.slice a2 m2 c2) b := by
  cases a <;> cases a2 <;> exact h
theorem OwnR.le {w : World} {B e k n c : Nat} {a : Option Addr} {xs : List Value} (h : OwnR w B e k (.slice a n c) n xs) : n ≤ c := by
  rcases h.2 with ⟨e, h1⟩ | ⟨g, cap, cur, e, h1, h2, h3, _⟩
  · omega
  · injection e with _ _ e; omega
set_option maxRecDepth 100000 in
set_option maxHeartbeats 1000000 in
theorem full_any (rb B most : Nat) (ka la : Option Addr) (kc lc : Nat) (k0 k1 : Int) (L : RkL) (w : World) (hR0 : RkAt w rb B most (.slice ka L.length kc) (.slice la L.length lc) L) (hm : 1 ≤ most ∧ most ≤ 100000) (hn : L.length ≤ 100000) :
  Calls Try.prog 99 #[Vp rb, .agg #[Vi k0, Vi k1]] w fun e w' => e = .returned (.bool (fullR most L (k0, k1))) ∧ Gr w w' := by
 have G := Gr.refl w
 have hRk := hR0
 have hm0 := hm.1
 have hm1 := hm.2
 refine Y.calls 31 Try.func99 rfl rfl ?_
 intro ac F0
 have F : Fr ac 31 [(0, Vp rb), (1, .agg #[Vi k0, Vi k1])] := F0.sub _
 clear F0
 refine Y.sl ?_
 have hgs3 : w.heap.size ≤ w.heap.size := G.size
 refine Y.pv F (X.box rfl (F.ev 1 (.agg #[Vi k0, Vi k1])) X.bx) ?_;clear F ac;intro ac F
 have hgs5 : w.heap.size ≤ w.heap.size := G.size
 obtain ⟨w6, hw_, g, hb, hbl, hC2⟩ := Y.bxd (RCells.nil w) #[Vi k0, Vi k1] 92;rw [hw_];clear hw_
 replace G := G.trans g
 have hC := hC2
 clear hC2
 replace hRk := hRk.gr g
 have hsz4 := hbl
 clear g hb hbl
 refine Y.pv F (X.assign rfl (X.kc (.bool false) rfl)) ?_;clear F ac;intro ac F
 refine Y.nt F [(0, Vp rb), (3, Vp w.heap.size)] ?_;clear F ac;intro ac F
 refine Y.seq ?_
 replace hC := hC.append (show RCells w6 (bcells rb [Vi most, .slice ka L.length kc, .slice la L.length lc] 0) from (RCells.cons (hRk.own.cell (k := 0) (by decide)) (RCells.cons (hRk.own.cell (k := 1) (by decide)) (RCells.cons (hRk.own.cell (k := 2) (by decide)) (RCells.nil _)))))
 cases h7 : ((L.length : Int) == most) with
 | false =>
  try rw [h7] at F
  have h7p : ¬ (L.length : Int) = most := by simpa using h7
  refine Y.region F [some (Vp rb), some (Vp rb), some (.pointer (some ⟨rb, 2, none⟩)), some (.slice la L.length lc), some (Vi L.length), some (Vp rb), some (Vp rb), some (Vp rb), some (Vi most), some (.bool false), some (.bool false), none, none, none, none, none, none, none, none, none, none, none, none, none, none, some (.bool false), some (.bool false)] [] rfl ⟨by kernel_rfl, of_decide_eq_true (by kernel_rfl), by kernel_rfl, by kernel_rfl, by kernel_rfl⟩ ⟨?_, ?_, ?_, ?_, ?_, ?_, ?_, ?_, ?_, ?_, ?_, ?_, ?_, ?_, ?_, ?_, ?_, ?_, ?_, ?_, ?_, ?_, ?_, ?_, ?_, ?_, ?_, trivial⟩ ?_
  ·intro ac done u W Sx hR
   exact X.vl (X.move rfl (Sx.ev 0 (Vp rb))) hR.st0
  ·intro ac done u W Sx hR
   exact X.vl (Y.nilC rfl (Sx.ev 5 (Vp rb))) hR.st0
  ·intro ac done u W Sx hR
   exact X.vl (X.field rfl (Sx.ev 6 (Vp rb)) (X.fld Try.underlying91 rfl (Try.siz38 _) rfl rfl)) hR.st0
  ·intro ac done u W Sx hR
   have g : Gr w6 W := hR.1
   exact X.vl (X.load rfl (Sx.ev 7 (.pointer (some ⟨rb, 2, none⟩))) (X.ld1 (Try.agg38 _) ((hC.gr g).at 4 rfl))) hR.st0
  ·intro ac done u W Sx hR
   exact X.vl (X.len1 Try.underlying38 rfl (Sx.ev 8 (.slice la L.length lc))) hR.st0
  ·intro ac done u W Sx hR
   exact X.vl (X.move rfl (Sx.ev 0 (Vp rb))) hR.st0
  ·intro ac done u W Sx hR
   exact X.vl (Y.nilC rfl (Sx.ev 10 (Vp rb))) hR.st0
  ·intro ac done u W Sx hR
   exact X.vl (X.field rfl (Sx.ev 11 (Vp rb)) (X.fld Try.underlying91 rfl (Try.siz3 _) rfl rfl)) hR.st0
  ·intro ac done u W Sx hR
   have g : Gr w6 W := hR.1
   exact X.vl (X.load rfl (Sx.ev 12 (Vp rb)) (X.ld1 (Try.agg3 _) ((hC.gr g).at 2 rfl))) hR.st0
  ·intro ac done u W Sx hR
   exact X.vl (X.binop rfl (Sx.ev 9 (Vi L.length)) (Sx.ev 13 (Vi most)) (X.eqlI Try.underlying3 h7)) hR.st0
  ·intro ac done u W Sx hR
   exact X.vl (X.move rfl (Sx.ev 14 (.bool false))) hR.st0
  ·intro ac done u W Sx hR
   exact X.skip (X.w2 rfl (Sx.yl 10 15 false (by kernel_rfl) rfl rfl) rfl) rfl (hR.skip rfl)
  ·intro ac done u W Sx hR
   exact X.skip (X.w2 rfl (Sx.yl 10 15 false (by kernel_rfl) rfl rfl) rfl) rfl (hR.skip rfl)
  ·intro ac done u W Sx hR
   exact X.skip (X.w2 rfl (Sx.yl 10 15 false (by kernel_rfl) rfl rfl) rfl) rfl (hR.skip rfl)
  ·intro ac done u W Sx hR
   exact X.skip (X.w2 rfl (Sx.yl 10 15 false (by kernel_rfl) rfl rfl) rfl) rfl (hR.skip rfl)
  ·intro ac done u W Sx hR
   exact X.skip (X.w2 rfl (Sx.yl 10 15 false (by kernel_rfl) rfl rfl) rfl) rfl (hR.skip rfl)
  ·intro ac done u W Sx hR
   exact X.skip (X.w2 rfl (Sx.yl 10 15 false (by kernel_rfl) rfl rfl) rfl) rfl (hR.skip rfl)
  ·intro ac done u W Sx hR
   exact X.skip (X.w2 rfl (Sx.yl 10 15 false (by kernel_rfl) rfl rfl) rfl) rfl (hR.skip rfl)
  ·intro ac done u W Sx hR
   exact X.skip (X.w2 rfl (Sx.yl 10 15 false (by kernel_rfl) rfl rfl) rfl) rfl (hR.skip rfl)
  ·intro ac done u W Sx hR
   exact X.skip (X.w2 rfl (Sx.yl 10 15 false (by kernel_rfl) rfl rfl) rfl) rfl (hR.skip rfl)
  ·intro ac done u W Sx hR
   exact X.skip (X.w2 rfl (Sx.yl 10 15 false (by kernel_rfl) rfl rfl) rfl) rfl (hR.skip rfl)
  ·intro ac done u W Sx hR
   exact X.skip (X.w2 rfl (Sx.yl 10 15 false (by kernel_rfl) rfl rfl) rfl) rfl (hR.skip rfl)
  ·intro ac done u W Sx hR
   exact X.skip (X.w2 rfl (Sx.yl 10 15 false (by kernel_rfl) rfl rfl) rfl) rfl (hR.skip rfl)
  ·intro ac done u W Sx hR
   exact X.skip (X.w2 rfl (Sx.yl 10 15 false (by kernel_rfl) rfl rfl) rfl) rfl (hR.skip rfl)
  ·intro ac done u W Sx hR
   exact X.skip (X.w2 rfl (Sx.yl 10 15 false (by kernel_rfl) rfl rfl) rfl) rfl (hR.skip rfl)
  ·intro ac done u W Sx hR
   exact X.vl (X.pickF rfl (Sx.ev 15 (.bool false)) (X.kc (.bool false) rfl)) hR.st0
  ·intro ac done u W Sx hR
   exact X.vl (X.assign rfl (Sx.ev 30 (.bool false))) hR.st0
  intro ac u w8 hs hd hl ho hR
  have g : Gr w6 w8 := hR.1
  replace F : Fr ac 31 [(4, .bool false)] := X.fr hs hd hl _ (by kernel_rfl)
  clear hs hd hl ho hR
  replace G := G.trans g
  replace hC := hC.gr g
  replace hRk := hRk.gr g
  clear g
  refine X.thenN ?_
  refine Y.ret ?_
  exact Y.ret0 (v := .bool false) F (Y.r1 F) ⟨by rw [full_no (by omega)], G⟩
 | true =>
  try rw [h7] at F
  have h7p : (L.length : Int) = most := by simpa using h7
  obtain ⟨y, hy⟩ : ∃ y, L[most - 1]? = some y := ⟨_, List.getElem?_eq_getElem (by omega)⟩
  obtain ⟨g9, Lr, rfl, -⟩ := hRk.k.row (by omega)
  refine Y.region F [some (Vp rb), some (Vp rb), some (.pointer (some ⟨rb, 2, none⟩)), some (.slice la L.length lc), some (Vi L.length), some (Vp rb), some (Vp rb), some (Vp rb), some (Vi most), some (.bool true), some (.bool true), some (.slice (some ⟨w.heap.size, 0, none⟩) 2 2), some (Vp rb), some (Vp rb), some (.pointer (some ⟨rb, 1, none⟩)), some (.slice (some ⟨g9, 0, none⟩) L.length kc), some (Vp rb), some (Vp rb), some (Vp rb), some (Vi most), some (Vi ((most : Int) - 1)), some (.pointer (some ⟨g9, (most - 1) * 2, none⟩)), some (.slice (some ⟨g9, (most - 1) * 2, none⟩) 2 2), some (Vi (cmpL [k0, k1] [y.1.1, y.1.2])), some (.bool (decide ((0 : Int) ≤ (cmpL [k0, k1] [y.1.1, y.1.2])))), some (.bool (decide ((0 : Int) ≤ (cmpL [k0, k1] [y.1.1, y.1.2])))), some (.bool (decide ((0 : Int) ≤ (cmpL [k0, k1] [y.1.1, y.1.2]))))] [] rfl ⟨by kernel_rfl, of_decide_eq_true (by kernel_rfl), by kernel_rfl, by kernel_rfl, by kernel_rfl⟩ ⟨?_, ?_, ?_, ?_, ?_, ?_, ?_, ?_, ?_, ?_, ?_, ?_, ?_, ?_, ?_, ?_, ?_, ?_, ?_, ?_, ?_, ?_, ?_, ?_, ?_, ?_, ?_, trivial⟩ ?_
  ·intro ac done u W Sx hR
   exact X.vl (X.move rfl (Sx.ev 0 (Vp rb))) hR.st0
  ·intro ac done u W Sx hR
   exact X.vl (Y.nilC rfl (Sx.ev 5 (Vp rb))) hR.st0
  ·intro ac done u W Sx hR
   exact X.vl (X.field rfl (Sx.ev 6 (Vp rb)) (X.fld Try.underlying91 rfl (Try.siz38 _) rfl rfl)) hR.st0
  ·intro ac done u W Sx hR
   have g : Gr w6 W := hR.1
   exact X.vl (X.load rfl (Sx.ev 7 (.pointer (some ⟨rb, 2, none⟩))) (X.ld1 (Try.agg38 _) ((hC.gr g).at 4 rfl))) hR.st0
  ·intro ac done u W Sx hR
   exact X.vl (X.len1 Try.underlying38 rfl (Sx.ev 8 (.slice la L.length lc))) hR.st0
  ·intro ac done u W Sx hR
   exact X.vl (X.move rfl (Sx.ev 0 (Vp rb))) hR.st0
  ·intro ac done u W Sx hR
   exact X.vl (Y.nilC rfl (Sx.ev 10 (Vp rb))) hR.st0
  ·intro ac done u W Sx hR
   exact X.vl (X.field rfl (Sx.ev 11 (Vp rb)) (X.fld Try.underlying91 rfl (Try.siz3 _) rfl rfl)) hR.st0
  ·intro ac done u W Sx hR
   have g : Gr w6 W := hR.1
   exact X.vl (X.load rfl (Sx.ev 12 (Vp rb)) (X.ld1 (Try.agg3 _) ((hC.gr g).at 2 rfl))) hR.st0
  ·intro ac done u W Sx hR
   exact X.vl (X.binop rfl (Sx.ev 9 (Vi L.length)) (Sx.ev 13 (Vi most)) (X.eqlI Try.underlying3 h7)) hR.st0
  ·intro ac done u W Sx hR
   exact X.vl (X.move rfl (Sx.ev 14 (.bool true))) hR.st0
  ·intro ac done u W Sx hR
   exact X.val (X.w1 rfl (Sx.yl 10 15 true (by kernel_rfl) rfl rfl)) rfl (Y.slAr (p := ⟨w.heap.size, 0, none⟩) rfl (Sx.ev 3 (Vp w.heap.size)) Try.underlying92 (fun W => Try.siz3 W) (by decide)) hR.st0
  ·intro ac done u W Sx hR
   exact X.val (X.w1 rfl (Sx.yl 10 15 true (by kernel_rfl) rfl rfl)) rfl (X.move rfl (Sx.ev 0 (Vp rb))) hR.st0
  ·intro ac done u W Sx hR
   exact X.val (X.w1 rfl (Sx.yl 10 15 true (by kernel_rfl) rfl rfl)) rfl (Y.nilC rfl (Sx.ev 17 (Vp rb))) hR.st0
  ·intro ac done u W Sx hR
   exact X.val (X.w1 rfl (Sx.yl 10 15 true (by kernel_rfl) rfl rfl)) rfl (X.field rfl (Sx.ev 18 (Vp rb)) (X.fld Try.underlying91 rfl (Try.siz89 _) rfl rfl)) hR.st0
  ·intro ac done u W Sx hR
   have g : Gr w6 W := hR.1
   exact X.val (X.w1 rfl (Sx.yl 10 15 true (by kernel_rfl) rfl rfl)) rfl (X.load rfl (Sx.ev 19 (.pointer (some ⟨rb, 1, none⟩))) (X.ld1 (Try.agg89 _) ((hC.gr g).at 3 rfl))) hR.st0
  ·intro ac done u W Sx hR
   exact X.val (X.w1 rfl (Sx.yl 10 15 true (by kernel_rfl) rfl rfl)) rfl (X.move rfl (Sx.ev 0 (Vp rb))) hR.st0
  ·intro ac done u W Sx hR
   exact X.val (X.w1 rfl (Sx.yl 10 15 true (by kernel_rfl) rfl rfl)) rfl (Y.nilC rfl (Sx.ev 21 (Vp rb))) hR.st0
  ·intro ac done u W Sx hR
   exact X.val (X.w1 rfl (Sx.yl 10 15 true (by kernel_rfl) rfl rfl)) rfl (X.field rfl (Sx.ev 22 (Vp rb)) (X.fld Try.underlying91 rfl (Try.siz3 _) rfl rfl)) hR.st0
  ·intro ac done u W Sx hR
   have g : Gr w6 W := hR.1
   exact X.val (X.w1 rfl (Sx.yl 10 15 true (by kernel_rfl) rfl rfl)) rfl (X.load rfl (Sx.ev 23 (Vp rb)) (X.ld1 (Try.agg3 _) ((hC.gr g).at 2 rfl))) hR.st0
  ·intro ac done u W Sx hR
   exact X.val (X.w1 rfl (Sx.yl 10 15 true (by kernel_rfl) rfl rfl)) rfl (X.binop rfl (Sx.ev 24 (Vi most)) (X.kc (Vi 1) rfl) (X.subI Try.underlying3 rfl (by omega) (by omega))) hR.st0
  ·intro ac done u W Sx hR
   exact X.val (X.w1 rfl (Sx.yl 10 15 true (by kernel_rfl) rfl rfl)) rfl (X.index rfl (Sx.ev 20 (.slice (some ⟨g9, 0, none⟩) L.length kc)) (Sx.ev 25 (Vi ((most : Int) - 1))) (X.idx (k := most - 1) Try.underlying89 (Try.siz92 _) (by omega) (by omega) (addr_add0 _ _))) hR.st0
  ·intro ac done u W Sx hR
   exact X.val (X.w1 rfl (Sx.yl 10 15 true (by kernel_rfl) rfl rfl)) rfl (Y.slAr (p := ⟨g9, (most - 1) * 2, none⟩) rfl (Sx.ev 26 (.pointer (some ⟨g9, (most - 1) * 2, none⟩))) Try.underlying92 (fun W => Try.siz3 W) (by decide)) hR.st0
  ·intro ac done u W Sx hR
   have g : Gr w6 W := hR.1
   refine X.call (X.w1 rfl (Sx.yl 10 15 true (by kernel_rfl) rfl rfl)) (X.enter (F := 90) rfl (X.kc (.func (.func 90) #[] #[]) rfl) (X.a2 (Sx.ev 16 (.slice (some ⟨w.heap.size, 0, none⟩) 2 2)) (Sx.ev 27 (.slice (some ⟨g9, (most - 1) * 2, none⟩) 2 2))) (enters_of Try.func90 (by kernel_rfl) rfl _)) (cmpL_any (some ⟨w.heap.size, 0, none⟩) (some ⟨g9, (most - 1) * 2, none⟩) 2 2 [k0, k1] [y.1.1, y.1.2] W (ints_2 ((hC.gr g).at 0 rfl) ((hC.gr g).at 1 rfl)) (key_ints ((hRk.gr g).k) rfl hy)) ?_
   rintro e W2 ⟨rfl, g2⟩
   exact ⟨_, rfl, X.kn rfl, hR.step g2 rfl⟩
  ·intro ac done u W Sx hR
   exact X.val (X.w1 rfl (Sx.yl 10 15 true (by kernel_rfl) rfl rfl)) rfl (X.binop rfl (Sx.ev 28 (Vi (cmpL [k0, k1] [y.1.1, y.1.2]))) (X.kc (Vi 0) rfl) (X.geqI Try.underlying3 rfl)) hR.st0
  ·intro ac done u W Sx hR
   exact X.vl (X.pickT rfl (Sx.ev 15 (.bool true)) (Sx.ev 29 (.bool (decide ((0 : Int) ≤ (cmpL [k0, k1] [y.1.1, y.1.2])))))) hR.st0
  ·intro ac done u W Sx hR
   exact X.vl (X.assign rfl (Sx.ev 30 (.bool (decide ((0 : Int) ≤ (cmpL [k0, k1] [y.1.1, y.1.2])))))) hR.st0
  intro ac u w9 hs hd hl ho hR
  have g : Gr w6 w9 := hR.1
  replace F : Fr ac 31 [(4, .bool (decide ((0 : Int) ≤ (cmpL [k0, k1] [y.1.1, y.1.2]))))] := X.fr hs hd hl _ (by kernel_rfl)
  clear hs hd hl ho hR
  replace G := G.trans g
  replace hC := hC.gr g
  replace hRk := hRk.gr g
  clear g
  refine X.thenN ?_
  refine Y.ret ?_
  exact Y.ret0 (v := .bool (decide ((0 : Int) ≤ (cmpL [k0, k1] [y.1.1, y.1.2])))) F (Y.r1 F) ⟨by rw [full_1 (by omega) hy, cmp_geK], G⟩
set_option maxRecDepth 100000 in
set_option maxHeartbeats 4000000 in
theorem put_s (rb B most : Nat) (ka la : Option Addr) (kc lc : Nat) (k0 k1 : Int) (L : RkL) (xs : List Int) (a : Option Addr) (c : Nat) (w : World) (hR0 : RkAt w rb B most (.slice ka L.length kc) (.slice la L.length lc) L) (hm : 1 ≤ most ∧ most ≤ 100000) (hn : L.length ≤ 100000) (hlm : L.length ≤ most) (hBeg : BegAt w B a c xs) (hBO : ∀ ad, a = some ad → ¬ RkO rb (.slice ka L.length kc) (.slice la L.length lc) ad.block) :
  Calls Try.prog 100 #[Vp rb, .agg #[Vi k0, Vi k1], .slice a xs.length c] w fun e w' => e = .returned (.tuple #[]) ∧ ∃ kv' lv', RkAt w' rb B most kv' lv' (putR most L ((k0, k1), ⟨xs, a, c⟩)) ∧ Only (RkO rb (.slice ka L.length kc) (.slice la L.length lc)) w w' ∧ (∀ b, RkO rb kv' lv' b → RkO rb (.slice ka L.length kc) (.slice la L.length lc) b ∨ w.heap.size ≤ b) := by
 have G := Gr.refl w
 have hRk := hR0
 have hm0 := hm.1
 have hm1 := hm.2
 have hrb9 := hR0.lt _ (.inl rfl)
 have hltW := hR0.lt
 refine Y.calls 88 Try.func100 rfl rfl ?_
 intro ac F0
 have F : Fr ac 88 [(0, Vp rb), (1, .agg #[Vi k0, Vi k1]), (2, .slice a xs.length c)] := F0.sub _
 clear F0
 refine Y.sl ?_
 have hgs3 : w.heap.size ≤ w.heap.size := G.size
 refine Y.pv F (X.box rfl (F.ev 1 (.agg #[Vi k0, Vi k1])) X.bx) ?_;clear F ac;intro ac F
 have hgs5 : w.heap.size ≤ w.heap.size := G.size
 obtain ⟨w6, hw_, g, hb, hbl, hC2⟩ := Y.bxd (RCells.nil w) #[Vi k0, Vi k1] 92;rw [hw_];clear hw_
 replace G := G.trans g
 have hC := hC2
 clear hC2
 replace hRk := hRk.gr g
 have hsz4 := hbl
 clear g hb hbl
 refine Y.nt F [(0, Vp rb), (2, .slice a xs.length c), (4, Vp w.heap.size)] ?_;clear F ac;intro ac F
 refine Y.seq ?_
 refine Y.sl ?_
 refine Y.pv2 F (X.move rfl (F.ev 0 (Vp rb))) (fun _ F=>X.load rfl (F.ev 4 (Vp w.heap.size)) (X.ldN (Try.agg92 _) (Try.siz92 _) (Y.atz (⟨w.heap.size, 0, none⟩) (Y.AtFrom.cons (hC.at 0 rfl) (Y.AtFrom.cons (hC.at 1 rfl) (Y.AtFrom.nil _ _ _)))))) fun ac F=>Y.pc F 99 (X.a2 (F.ev 7 (Vp rb)) (F.ev 8 (.agg #[Vi k0, Vi k1]))) Try.func99 (full_any rb B most ka la kc lc k0 k1 L w6 hRk hm hn) ?_
 clear F ac
 rintro e w7 ⟨rfl, g⟩
 refine ⟨_, rfl, ?_⟩
 intro ac F
 replace G := G.trans g
 replace hC := hC.gr g
 replace hRk := hRk.gr g
 clear g
 refine Y.nt F [(0, Vp rb), (2, .slice a xs.length c), (4, Vp w.heap.size), (9, .bool (fullR most L (k0, k1)))] ?_;clear F ac;intro ac F
 cases h8 : fullR most L (k0, k1) with
 | false =>
  try rw [h8] at F
  refine Y.cF F 9 ?_
  refine Y.skip ?_
  refine X.thenN ?_
  refine Y.sl ?_
  refine Y.pv3 F (X.move rfl (F.ev 0 (Vp rb))) (fun _ F=>Y.nilC rfl (F.ev 10 (Vp rb))) (fun _ F=>X.field rfl (F.ev 11 (Vp rb)) (X.fld Try.underlying91 rfl (Try.siz38 _) rfl rfl)) ?_;clear F ac;intro ac F
  replace hC := hC.append (show RCells w7 (bcells rb [Vi most, .slice ka L.length kc, .slice la L.length lc] 0) from (RCells.cons (hRk.own.cell (k := 0) (by decide)) (RCells.cons (hRk.own.cell (k := 1) (by decide)) (RCells.cons (hRk.own.cell (k := 2) (by decide)) (RCells.nil _)))))
  refine Y.pv3 F (X.load rfl (F.ev 12 (.pointer (some ⟨rb, 2, none⟩))) (X.ld1 (Try.agg38 _) (hC.at 4 rfl))) (fun _ F=>X.len1 Try.underlying38 rfl (F.ev 13 (.slice la L.length lc))) (fun _ F=>X.assign rfl (F.ev 14 (Vi L.length))) ?_;clear F ac;intro ac F
  refine Y.nt F [(0, Vp rb), (2, .slice a xs.length c), (4, Vp w.heap.size), (6, Vi L.length)] ?_;clear F ac;intro ac F
  refine Y.seq ?_
  refine Y.block ?_
  refine Y.loop (fun me_ ac wr => ∃ (i : Nat), me_ = i + 1 ∧ Only (fun b => False) w7 wr ∧ i ≤ L.length ∧ posR L (k0, k1) L.length = posR L (k0, k1) i ∧ Fr ac 88 [(0, Vp rb), (2, .slice a xs.length c), (4, Vp w.heap.size), (6, Vi i)]) _ ⟨L.length, rfl, Only.refl _ _, Nat.le_refl _, rfl, F.sub _⟩ ?_
  have hRkB1 := hRk
  have GB1 := G
  have hCB1 := hC
  clear F ac
  intro me_ ac w9 hI
  obtain ⟨i, rfl, hO1, hiL, hpp, F⟩ := hI
  replace G := GB1.trans (hO1.gr (fun _ _ h => h))
  replace hRk := (hR0).gr G
  replace hC := (RCells.cons (hO1.cell (hCB1.at 0 rfl) (fun h => h)) (RCells.cons (hO1.cell (hCB1.at 1 rfl) (fun h => h)) (RCells.cons (hO1.cell (hCB1.at 2 rfl) (fun h => h)) (RCells.cons (hO1.cell (hCB1.at 3 rfl) (fun h => h)) (RCells.cons (hO1.cell (hCB1.at 4 rfl) (fun h => h)) (RCells.nil _))))))
  refine Y.seq ?_
  refine Y.seq ?_
  cases h10 : decide ((0 : Int) < i) with
  | false =>
   try rw [h10] at F
   have h10p : ¬ ((0 : Int) < i) := of_decide_eq_false h10
   have hpos : posR L (k0, k1) i = i := by rw [show i = 0 by omega]; rfl
   refine Y.region F [some (Vi i), some (.bool false), some (.bool false), none, none, none, none, none, none, none, none, none, none, none, some (.bool false)] [] rfl ⟨by kernel_rfl, of_decide_eq_true (by kernel_rfl), by kernel_rfl, by kernel_rfl, by kernel_rfl⟩ ⟨?_, ?_, ?_, ?_, ?_, ?_, ?_, ?_, ?_, ?_, ?_, ?_, ?_, ?_, ?_, trivial⟩ ?_
   ·intro ac done u W Sx hR
    exact X.vl (X.move rfl (Sx.ev 6 (Vi i))) hR.st0
   ·intro ac done u W Sx hR
    exact X.vl (X.binop rfl (Sx.ev 15 (Vi i)) (X.kc (Vi 0) rfl) (X.gtrI Try.underlying3 h10)) hR.st0
   ·intro ac done u W Sx hR
    exact X.vl (X.move rfl (Sx.ev 16 (.bool false))) hR.st0
   ·intro ac done u W Sx hR
    exact X.skip (X.w2 rfl (Sx.yl 2 17 false (by kernel_rfl) rfl rfl) rfl) rfl (hR.skip rfl)
   ·intro ac done u W Sx hR
    exact X.skip (X.w2 rfl (Sx.yl 2 17 false (by kernel_rfl) rfl rfl) rfl) rfl (hR.skip rfl)
   ·intro ac done u W Sx hR
    exact X.skip (X.w2 rfl (Sx.yl 2 17 false (by kernel_rfl) rfl rfl) rfl) rfl (hR.skip rfl)
   ·intro ac done u W Sx hR
    exact X.skip (X.w2 rfl (Sx.yl 2 17 false (by kernel_rfl) rfl rfl) rfl) rfl (hR.skip rfl)
   ·intro ac done u W Sx hR
    exact X.skip (X.w2 rfl (Sx.yl 2 17 false (by kernel_rfl) rfl rfl) rfl) rfl (hR.skip rfl)
   ·intro ac done u W Sx hR
    exact X.skip (X.w2 rfl (Sx.yl 2 17 false (by kernel_rfl) rfl rfl) rfl) rfl (hR.skip rfl)
   ·intro ac done u W Sx hR
    exact X.skip (X.w2 rfl (Sx.yl 2 17 false (by kernel_rfl) rfl rfl) rfl) rfl (hR.skip rfl)
   ·intro ac done u W Sx hR
    exact X.skip (X.w2 rfl (Sx.yl 2 17 false (by kernel_rfl) rfl rfl) rfl) rfl (hR.skip rfl)
   ·intro ac done u W Sx hR
    exact X.skip (X.w2 rfl (Sx.yl 2 17 false (by kernel_rfl) rfl rfl) rfl) rfl (hR.skip rfl)
   ·intro ac done u W Sx hR
    exact X.skip (X.w2 rfl (Sx.yl 2 17 false (by kernel_rfl) rfl rfl) rfl) rfl (hR.skip rfl)
   ·intro ac done u W Sx hR
    exact X.skip (X.w2 rfl (Sx.yl 2 17 false (by kernel_rfl) rfl rfl) rfl) rfl (hR.skip rfl)
   ·intro ac done u W Sx hR
    exact X.vl (X.pickF rfl (Sx.ev 17 (.bool false)) (X.kc (.bool false) rfl)) hR.st0
   intro ac u w11 hs hd hl ho hR
   have g : Gr w9 w11 := hR.1
   replace F : Fr ac 88 [(0, Vp rb), (2, .slice a xs.length c), (4, Vp w.heap.size), (6, Vi i), (29, .bool false)] := X.fr hs hd hl _ (by kernel_rfl)
   clear hs hd hl ho hR
   replace G := G.trans g
   replace hC := hC.gr g
   replace hO1 := hO1.thenGr g
   replace hRk := hRk.gr g
   clear g
   refine X.thenN ?_
   refine Y.cF F 29 ?_
   refine Y.exit ?_
   refine X.thenX (X.thenX (X.blockX (X.thenN ?_)))
   refine Y.seq ?_
   have hlt9 := hRk.lt
   have hrB := hRk.rB
   have hGs := G.size
   obtain ⟨x, hx⟩ : ∃ x : (Int × Int) × BegE, x = ((k0, k1), ⟨xs, a, c⟩) := ⟨_, rfl⟩
   refine region_xi F [some (Vp rb), some (Vp rb), some (Vp rb), some (Vp rb), some (.pointer (some ⟨rb, 1, none⟩)), some (.slice ka L.length kc), some (Vi i), some (.agg #[Vi k0, Vi k1]), none, none, some (Vp rb), some (Vp rb), some (.pointer (some ⟨rb, 2, none⟩)), some (.slice la L.length lc), some (Vi i), some (.slice a xs.length c), none, none, some (Vp rb), some (.pointer (some ⟨rb, 1, none⟩)), none, some (Vp rb), some (.pointer (some ⟨rb, 2, none⟩)), none] (RPt w11 B rb most L.length (.slice ka L.length kc) (.slice la L.length lc) (keysV L) (keysV (insAt L i x)) [Vi k0, Vi k1] (begsV L) (begsV (insAt L i x)) [.slice a xs.length c]) rfl ⟨by kernel_rfl, of_decide_eq_true (by kernel_rfl), by kernel_rfl, by kernel_rfl, by kernel_rfl⟩ (fun _ => ⟨RPt.start (Gr.refl _) hRk.k hRk.l hRk.kl hRk.own, (RPt.start (Gr.drew _) (hRk.k.gr (Gr.drew _)) (hRk.l.gr (Gr.drew _)) hRk.kl (hRk.own.gr (Gr.drew _)))⟩) ⟨?_, ?_, ?_, ?_, ?_, ?_, ?_, ?_, ?_, ?_, ?_, ?_, ?_, ?_, ?_, ?_, ?_, ?_, ?_, ?_, ?_, ?_, ?_, ?_, trivial⟩ ?_
   ·intro ac done u W Sx hQ
    exact X.vl (X.move rfl (Sx.ev 0 (Vp rb))) (hQ.quiet (by decide))
   ·intro ac done u W Sx hQ
    exact X.vl (X.move rfl (Sx.ev 0 (Vp rb))) (hQ.quiet (by decide))
   ·intro ac done u W Sx hQ
    exact X.vl (X.move rfl (Sx.ev 0 (Vp rb))) (hQ.quiet (by decide))
   ·intro ac done u W Sx hQ
    exact X.vl (Y.nilC rfl (Sx.ev 34 (Vp rb))) (hQ.quiet (by decide))
   ·intro ac done u W Sx hQ
    exact X.vl (X.field rfl (Sx.ev 35 (Vp rb)) (X.fld Try.underlying91 rfl (Try.siz89 _) rfl rfl)) (hQ.quiet (by decide))
   ·intro ac done u W Sx hQ
    have hc9 := hQ.own.cell (k := 1) (by decide)
    rw [Sx.no 20 (by kernel_rfl)] at hc9
    exact X.vl (X.load rfl (Sx.ev 36 (.pointer (some ⟨rb, 1, none⟩))) (X.ld1 (Try.agg89 _) hc9)) (hQ.quiet (by decide))
   ·intro ac done u W Sx hQ
    exact X.vl (X.move rfl (Sx.ev 6 (Vi i))) (hQ.quiet (by decide))
   ·intro ac done u W Sx hQ
    have c0 := hQ.o.cell (hC.at 0 rfl) (fun e => by have h9 := hltW _ e; simp only at h9; omega)
    have c1 := hQ.o.cell (hC.at 1 rfl) (fun e => by have h9 := hltW _ e; simp only at h9; omega)
    exact X.vl (X.load rfl (Sx.ev 4 (Vp w.heap.size)) (X.ldN (Try.agg92 _) (Try.siz92 _) (Y.atz (⟨w.heap.size, 0, none⟩) (Y.AtFrom.cons c0 (Y.AtFrom.cons c1 (Y.AtFrom.nil _ _ _)))))) (hQ.quiet (by decide))
   ·intro ac done u W Sx hQ
    exact X.valN (X.w0 rfl) rfl (X.bs rfl (X.b1 (Sx.ev 39 (.agg #[Vi k0, Vi k1]))) (Try.bs89 _ _ _)) (hQ.s8 (Gr.alloc _ _) hQ.o.size (heap_alloc_new _ _))
   ·intro ac done u W Sx hQ
    obtain ⟨g8, e8, hg8, hp8⟩ := hQ.k8 (Sx.an 8 (by kernel_rfl)) Sx.nd
    obtain ⟨kc9, h1, h2, h3, h4, lc9, h5, h6, h7, h8, h9⟩ := hQ.kc
    have he := h1 Sx.nd
    subst he
    rw [Sx.nd] at h3
    simp only [Bool.false_eq_true, if_false] at h3
    have hcl := ins116_any B g8 L.length i (.slice ka L.length kc) (keysV L) [Vi k0, Vi k1] W h3 (keys_all L) hiL hn (fun e => by have := hlt9 _ (.inr (.inl e)); omega) hp8 rfl rfl (Nat.le_trans hRk.BW hQ.o.size)
    refine X.call (X.w0 rfl) (X.enter (F := 116) rfl (X.kc (.func (.func 116) #[] #[]) rfl) (X.a3 (Sx.ev 37 (.slice ka L.length kc)) (Sx.ev 38 (Vi i)) ((Sx.own 8 40 rfl).trans e8)) (enters_of Try.func116 (by kernel_rfl) rfl _)) hcl ?_
    rintro e W2 ⟨v2, rfl, hO2, ho2, hat2⟩
    rw [show (keysV L).take (i * 2) ++ [Vi k0, Vi k1] ++ (keysV L).drop (i * 2) = keysV (insAt L i x) by subst hx; exact keys_ins L i hiL ((k0, k1), ⟨xs, a, c⟩)] at hO2
    exact ⟨_, rfl, X.un rfl, hQ.s9 Sx.nd (Sx.no 20 (by kernel_rfl)) hlt9 hrB hO2 ho2 hat2 (fun e => by have := (hRk.k.ge e).1; omega)⟩
   ·intro ac done u W Sx hQ
    exact X.vl (X.move rfl (Sx.ev 0 (Vp rb))) (hQ.quiet (by decide))
   ·intro ac done u W Sx hQ
    exact X.vl (Y.nilC rfl (Sx.ev 42 (Vp rb))) (hQ.quiet (by decide))
   ·intro ac done u W Sx hQ
    exact X.vl (X.field rfl (Sx.ev 43 (Vp rb)) (X.fld Try.underlying91 rfl (Try.siz38 _) rfl rfl)) (hQ.quiet (by decide))
   ·intro ac done u W Sx hQ
    have hc9 := hQ.own.cell (k := 2) (by decide)
    rw [Sx.no 23 (by kernel_rfl)] at hc9
    exact X.vl (X.load rfl (Sx.ev 44 (.pointer (some ⟨rb, 2, none⟩))) (X.ld1 (Try.agg38 _) hc9)) (hQ.quiet (by decide))
   ·intro ac done u W Sx hQ
    exact X.vl (X.move rfl (Sx.ev 6 (Vi i))) (hQ.quiet (by decide))
   ·intro ac done u W Sx hQ
    exact X.vl (X.move rfl (Sx.ev 2 (.slice a xs.length c))) (hQ.quiet (by decide))
   ·intro ac done u W Sx hQ
    exact X.valN (X.w0 rfl) rfl (X.bs rfl (X.b1 (Sx.ev 47 (.slice a xs.length c))) (Try.bs38 _ _ _ _)) (hQ.s16 (Gr.alloc _ _) hQ.o.size (heap_alloc_new _ _))
   ·intro ac done u W Sx hQ
    obtain ⟨g8, e8, hg8, hp8⟩ := hQ.k16 (Sx.an 16 (by kernel_rfl)) Sx.nd
    obtain ⟨kc9, h1, h2, h3, h4, lc9, h5, h6, h7, h8, h9⟩ := hQ.kc
    have he := h5 Sx.nd
    subst he
    rw [Sx.nd] at h7
    simp only [Bool.false_eq_true, if_false] at h7
    have hcl := ins117_any B g8 L.length i (.slice la L.length lc) (begsV L) [.slice a xs.length c] W h7 (begs_all L) hiL hn (fun e => by have := hlt9 _ (.inr (.inr e)); omega) hp8 rfl rfl (Nat.le_trans hRk.BW hQ.o.size)
    refine X.call (X.w0 rfl) (X.enter (F := 117) rfl (X.kc (.func (.func 117) #[] #[]) rfl) (X.a3 (Sx.ev 45 (.slice la L.length lc)) (Sx.ev 46 (Vi i)) ((Sx.own 16 48 rfl).trans e8)) (enters_of Try.func117 (by kernel_rfl) rfl _)) hcl ?_
    rintro e W2 ⟨v2, rfl, hO2, ho2, hat2⟩
    rw [show (begsV L).take (i * 1) ++ [.slice a xs.length c] ++ (begsV L).drop (i * 1) = begsV (insAt L i x) by subst hx; exact begs_ins L i ((k0, k1), ⟨xs, a, c⟩)] at hO2
    exact ⟨_, rfl, X.un rfl, hQ.s17 Sx.nd (Sx.no 23 (by kernel_rfl)) hlt9 hrB hO2 ho2 hat2 (fun e => by have := (hRk.l.ge e).1; omega)⟩
   ·intro ac done u W Sx hQ
    exact X.vl (Y.nilC rfl (Sx.ev 32 (Vp rb))) (hQ.quiet (by decide))
   ·intro ac done u W Sx hQ
    exact X.vl (X.field rfl (Sx.ev 50 (Vp rb)) (X.fld Try.underlying91 rfl (Try.siz89 _) rfl rfl)) (hQ.quiet (by decide))
   ·intro ac done u W Sx hQ
    obtain ⟨a9, c9, e9⟩ : ∃ a c, u 9 = .slice a (L.length + 1) c := by
     obtain ⟨kc9, h1, h2, h3, h4, lc9, h5, h6, h7, h8, h9⟩ := hQ.kc
     have hd := Sx.an 9 (by kernel_rfl)
     rw [hd] at h3
     rw [if_pos rfl] at h3
     rw [← h2 hd]
     exact h3.form
    have hst := hQ.own.st1 (P := Try.prog) (t := 89) (k := 1) (v := u 9) (Try.siz89 _) (by rw [e9]; rfl) (by rw [e9]; rfl) (by decide)
    exact X.unit (X.w0 rfl) rfl (X.store rfl (Sx.ev 51 (.pointer (some ⟨rb, 1, none⟩))) (Sx.own 9 41 rfl) hst) (hQ.s20 hlt9 hrB)
   ·intro ac done u W Sx hQ
    exact X.vl (Y.nilC rfl (Sx.ev 33 (Vp rb))) (hQ.quiet (by decide))
   ·intro ac done u W Sx hQ
    exact X.vl (X.field rfl (Sx.ev 52 (Vp rb)) (X.fld Try.underlying91 rfl (Try.siz38 _) rfl rfl)) (hQ.quiet (by decide))
   ·intro ac done u W Sx hQ
    obtain ⟨a9, c9, e9⟩ : ∃ a c, u 17 = .slice a (L.length + 1) c := by
     obtain ⟨kc9, h1, h2, h3, h4, lc9, h5, h6, h7, h8, h9⟩ := hQ.kc
     have hd := Sx.an 17 (by kernel_rfl)
     rw [hd] at h7
     rw [if_pos rfl] at h7
     rw [← h6 hd]
     exact h7.form
    have hst := hQ.own.st1 (P := Try.prog) (t := 38) (k := 2) (v := u 17) (Try.siz38 _) (by rw [e9]; rfl) (by rw [e9]; rfl) (by decide)
    exact X.unit (X.w0 rfl) rfl (X.store rfl (Sx.ev 53 (.pointer (some ⟨rb, 2, none⟩))) (Sx.own 17 49 rfl) hst) (hQ.s23 hlt9 hrB)
   rintro ac u w12 hs hd hl_ ho hQ
   obtain ⟨kc9, h1, h2, h3, h4, lc9, h5, h6, h7, h8, h9⟩ := hQ.kc
   have e9 := h2 rfl
   have e17 := h6 rfl
   have hO9 : OwnP w12 rb 3 (VL [Vi most, u 9, u 17]) := hQ.own
   have h3 : OwnR w12 B 92 2 kc9 (L.length + 1) (keysV (insAt L i x)) := h3
   have h7 : OwnR w12 B 34 1 lc9 (L.length + 1) (begsV (insAt L i x)) := h7
   rw [← e9, ← e17] at hO9
   obtain ⟨ka2, kc2, rfl⟩ := h3.form
   obtain ⟨la2, lc2, rfl⟩ := h7.form
   obtain ⟨hR2, hRO⟩ := hRk.ins (x := x) hiL (by subst hx; exact (hBeg.gr G)) (by subst hx; exact hBO) hQ.o h3 h7 h4 h8 h9 hO9
   have hoo := hQ.o
   clear h1 h2 h5 h6 e9 e17 hQ h3 h7 h4 h8 h9
   replace F : Fr ac 88 [(0, Vp rb)] := X.fr hs hd hl_ _ (by kernel_rfl)
   clear hs hd hl_ ho
   have hOw : Only (RkO rb (.slice ka L.length kc) (.slice la L.length lc)) w w12 := (G.only _).trans hoo
   clear hoo
   have hil := ins_len (x := x) hiL
   clear hC G
   have hRw : RkAt w12 rb B most (.slice ka2 (L.length + 1) kc2) (.slice la2 (L.length + 1) lc2) (insAt L i x) := hR2
   clear hRk hR2
   have hRk := hRw
   clear hRw
   have G := Gr.refl w12
   have hR1 := hRk
   refine X.thenN ?_
   refine Y.seq ?_
   have hC : RCells w12 [(Ad rb 0, Vi most), (Ad rb 1, .slice ka2 (L.length + 1) kc2), (Ad rb 2, .slice la2 (L.length + 1) lc2)] := (RCells.cons (hRk.own.cell (k := 0) (by decide)) (RCells.cons (hRk.own.cell (k := 1) (by decide)) (RCells.cons (hRk.own.cell (k := 2) (by decide)) (RCells.nil _))))
   refine Y.region F [some (Vp rb), some (Vp rb), some (.pointer (some ⟨rb, 2, none⟩)), some (.slice la2 (L.length + 1) lc2), some (Vi (L.length + 1)), some (Vp rb), some (Vp rb), some (Vp rb), some (Vi most), some (.bool (decide ((most : Int) < (L.length + 1))))] [] rfl ⟨by kernel_rfl, of_decide_eq_true (by kernel_rfl), by kernel_rfl, by kernel_rfl, by kernel_rfl⟩ ⟨?_, ?_, ?_, ?_, ?_, ?_, ?_, ?_, ?_, ?_, trivial⟩ ?_
   ·intro ac done u W Sx hR
    exact X.vl (X.move rfl (Sx.ev 0 (Vp rb))) hR.st0
   ·intro ac done u W Sx hR
    exact X.vl (Y.nilC rfl (Sx.ev 54 (Vp rb))) hR.st0
   ·intro ac done u W Sx hR
    exact X.vl (X.field rfl (Sx.ev 55 (Vp rb)) (X.fld Try.underlying91 rfl (Try.siz38 _) rfl rfl)) hR.st0
   ·intro ac done u W Sx hR
    have g : Gr w12 W := hR.1
    exact X.vl (X.load rfl (Sx.ev 56 (.pointer (some ⟨rb, 2, none⟩))) (X.ld1 (Try.agg38 _) ((hC.gr g).at 2 rfl))) hR.st0
   ·intro ac done u W Sx hR
    exact X.vl (X.len1 Try.underlying38 rfl (Sx.ev 57 (.slice la2 (L.length + 1) lc2))) hR.st0
   ·intro ac done u W Sx hR
    exact X.vl (X.move rfl (Sx.ev 0 (Vp rb))) hR.st0
   ·intro ac done u W Sx hR
    exact X.vl (Y.nilC rfl (Sx.ev 59 (Vp rb))) hR.st0
   ·intro ac done u W Sx hR
    exact X.vl (X.field rfl (Sx.ev 60 (Vp rb)) (X.fld Try.underlying91 rfl (Try.siz3 _) rfl rfl)) hR.st0
   ·intro ac done u W Sx hR
    have g : Gr w12 W := hR.1
    exact X.vl (X.load rfl (Sx.ev 61 (Vp rb)) (X.ld1 (Try.agg3 _) ((hC.gr g).at 0 rfl))) hR.st0
   ·intro ac done u W Sx hR
    exact X.vl (X.binop rfl (Sx.ev 58 (Vi (L.length + 1))) (Sx.ev 62 (Vi most)) (X.gtrI Try.underlying3 rfl)) hR.st0
   intro ac u w13 hs hd hl ho hR
   have g : Gr w12 w13 := hR.1
   replace F : Fr ac 88 [(0, Vp rb), (63, .bool (decide ((most : Int) < (L.length + 1))))] := X.fr hs hd hl _ (by kernel_rfl)
   clear hs hd hl ho hR
   replace G := G.trans g
   replace hC := hC.gr g
   replace hOw := hOw.thenGr g
   replace hRk := hRk.gr g
   clear g
   refine X.thenN ?_
   cases h14 : decide ((most : Int) < (L.length + 1)) with
   | false =>
    try rw [h14] at F
    have h14p : ¬ ((most : Int) < (L.length + 1)) := of_decide_eq_false h14
    refine Y.cF F 63 ?_
    refine Y.skip ?_
    show bodyPostM _ _ _ _ _ .ret _ _
    exact Y.ret0 (v := .tuple #[]) F (Y.rs0 rfl) ⟨rfl, _, _, by rw [put_in (x := ((k0, k1), ⟨xs, a, c⟩)) h8 (hpp.trans hpos), ← hx, List.take_of_length_le (by rw [hil]; omega)]; exact hRk, hOw, fun b e => (hRO b e).imp (fun z => z) (fun e => Nat.le_trans hGs e)⟩
   | true =>
    try rw [h14] at F
    have h14p : ((most : Int) < (L.length + 1)) := of_decide_eq_true h14
    refine Y.cT F 63 ?_
    have hkl9 : L.length + 1 ≤ kc2 := by have h8 := hRk.k; rw [hil] at h8; exact h8.le
    have hll9 : L.length + 1 ≤ lc2 := by have h8 := hRk.l; rw [hil] at h8; exact h8.le
    refine region_xi F [some (Vp rb), some (Vp rb), some (Vp rb), some (Vp rb), some (.pointer (some ⟨rb, 1, none⟩)), some (.slice ka2 (L.length + 1) kc2), some (Vp rb), some (Vp rb), some (Vp rb), some (Vi most), some (.slice ka2 most kc2), some (Vp rb), some (Vp rb), some (.pointer (some ⟨rb, 2, none⟩)), some (.slice la2 (L.length + 1) lc2), some (Vp rb), some (Vp rb), some (Vp rb), some (Vi most), some (.slice la2 most lc2), some (Vp rb), some (.pointer (some ⟨rb, 1, none⟩)), none, some (Vp rb), some (.pointer (some ⟨rb, 2, none⟩)), none] (RS2 w13 rb 22 25 (Vi most) (.slice ka2 (L.length + 1) kc2) (.slice la2 (L.length + 1) lc2) (.slice ka2 most kc2) (.slice la2 most lc2)) rfl ⟨by kernel_rfl, of_decide_eq_true (by kernel_rfl), by kernel_rfl, by kernel_rfl, by kernel_rfl⟩ (fun _ => ⟨RS2.start (Only.refl _ _) hRk.own, RS2.start ((Gr.drew _).only _) (hRk.own.gr (Gr.drew _))⟩) ⟨?_, ?_, ?_, ?_, ?_, ?_, ?_, ?_, ?_, ?_, ?_, ?_, ?_, ?_, ?_, ?_, ?_, ?_, ?_, ?_, ?_, ?_, ?_, ?_, ?_, ?_, trivial⟩ ?_
    ·intro ac done u W Sx hQ
     exact X.vl (X.move rfl (Sx.ev 0 (Vp rb))) (hQ.quiet (by decide))
    ·intro ac done u W Sx hQ
     exact X.vl (X.move rfl (Sx.ev 0 (Vp rb))) (hQ.quiet (by decide))
    ·intro ac done u W Sx hQ
     exact X.vl (X.move rfl (Sx.ev 0 (Vp rb))) (hQ.quiet (by decide))
    ·intro ac done u W Sx hQ
     exact X.vl (Y.nilC rfl (Sx.ev 66 (Vp rb))) (hQ.quiet (by decide))
    ·intro ac done u W Sx hQ
     exact X.vl (X.field rfl (Sx.ev 67 (Vp rb)) (X.fld Try.underlying91 rfl (Try.siz89 _) rfl rfl)) (hQ.quiet (by decide))
    ·intro ac done u W Sx hQ
     have hc9 := hQ.own.cell (k := 1) (by decide)
     rw [Sx.no 22 (by kernel_rfl)] at hc9
     exact X.vl (X.load rfl (Sx.ev 68 (.pointer (some ⟨rb, 1, none⟩))) (X.ld1 (Try.agg89 _) hc9)) (hQ.quiet (by decide))
    ·intro ac done u W Sx hQ
     exact X.vl (X.move rfl (Sx.ev 0 (Vp rb))) (hQ.quiet (by decide))
    ·intro ac done u W Sx hQ
     exact X.vl (Y.nilC rfl (Sx.ev 70 (Vp rb))) (hQ.quiet (by decide))
    ·intro ac done u W Sx hQ
     exact X.vl (X.field rfl (Sx.ev 71 (Vp rb)) (X.fld Try.underlying91 rfl (Try.siz3 _) rfl rfl)) (hQ.quiet (by decide))
    ·intro ac done u W Sx hQ
     have hc9 := hQ.own.cell (k := 0) (by decide)
     exact X.vl (X.load rfl (Sx.ev 72 (Vp rb)) (X.ld1 (Try.agg3 _) hc9)) (hQ.quiet (by decide))
    ·intro ac done u W Sx hQ
     exact X.vl (Y.slH (k := most) rfl (Sx.ev 69 (.slice ka2 (L.length + 1) kc2)) (Sx.ev 73 (Vi most)) Try.underlying89 (Try.siz92 _) (by omega) (by omega)) (hQ.quiet (by decide))
    ·intro ac done u W Sx hQ
     exact X.vl (X.move rfl (Sx.ev 0 (Vp rb))) (hQ.quiet (by decide))
    ·intro ac done u W Sx hQ
     exact X.vl (Y.nilC rfl (Sx.ev 75 (Vp rb))) (hQ.quiet (by decide))
    ·intro ac done u W Sx hQ
     exact X.vl (X.field rfl (Sx.ev 76 (Vp rb)) (X.fld Try.underlying91 rfl (Try.siz38 _) rfl rfl)) (hQ.quiet (by decide))
    ·intro ac done u W Sx hQ
     have hc9 := hQ.own.cell (k := 2) (by decide)
     rw [Sx.no 25 (by kernel_rfl)] at hc9
     exact X.vl (X.load rfl (Sx.ev 77 (.pointer (some ⟨rb, 2, none⟩))) (X.ld1 (Try.agg38 _) hc9)) (hQ.quiet (by decide))
    ·intro ac done u W Sx hQ
     exact X.vl (X.move rfl (Sx.ev 0 (Vp rb))) (hQ.quiet (by decide))
    ·intro ac done u W Sx hQ
     exact X.vl (Y.nilC rfl (Sx.ev 79 (Vp rb))) (hQ.quiet (by decide))
    ·intro ac done u W Sx hQ
     exact X.vl (X.field rfl (Sx.ev 80 (Vp rb)) (X.fld Try.underlying91 rfl (Try.siz3 _) rfl rfl)) (hQ.quiet (by decide))
    ·intro ac done u W Sx hQ
     have hc9 := hQ.own.cell (k := 0) (by decide)
     exact X.vl (X.load rfl (Sx.ev 81 (Vp rb)) (X.ld1 (Try.agg3 _) hc9)) (hQ.quiet (by decide))
    ·intro ac done u W Sx hQ
     exact X.vl (Y.slH (k := most) rfl (Sx.ev 78 (.slice la2 (L.length + 1) lc2)) (Sx.ev 82 (Vi most)) Try.underlying38 (Try.siz34 _) (by omega) (by omega)) (hQ.quiet (by decide))
    ·intro ac done u W Sx hQ
     exact X.vl (Y.nilC rfl (Sx.ev 64 (Vp rb))) (hQ.quiet (by decide))
    ·intro ac done u W Sx hQ
     exact X.vl (X.field rfl (Sx.ev 84 (Vp rb)) (X.fld Try.underlying91 rfl (Try.siz89 _) rfl rfl)) (hQ.quiet (by decide))
    ·intro ac done u W Sx hQ
     exact X.unit (X.w0 rfl) rfl (X.store rfl (Sx.ev 85 (.pointer (some ⟨rb, 1, none⟩))) (Sx.ev 74 (.slice ka2 most kc2)) (hQ.own.st1 (Try.siz89 _) rfl rfl (by decide))) (hQ.st1 (by decide))
    ·intro ac done u W Sx hQ
     exact X.vl (Y.nilC rfl (Sx.ev 65 (Vp rb))) (hQ.quiet (by decide))
    ·intro ac done u W Sx hQ
     exact X.vl (X.field rfl (Sx.ev 86 (Vp rb)) (X.fld Try.underlying91 rfl (Try.siz38 _) rfl rfl)) (hQ.quiet (by decide))
    ·intro ac done u W Sx hQ
     exact X.unit (X.w0 rfl) rfl (X.store rfl (Sx.ev 87 (.pointer (some ⟨rb, 2, none⟩))) (Sx.ev 83 (.slice la2 most lc2)) (hQ.own.st1 (Try.siz38 _) rfl rfl (by decide))) (hQ.st2 (by decide))
    rintro ac u w15 hs hd hl_ ho hQ
    have hO9 : OwnP w15 rb 3 (VL [Vi most, .slice ka2 most kc2, .slice la2 most lc2]) := hQ.own
    have hon := hQ.o
    replace F : Fr ac 88 [] := X.fr hs hd hl_ _ (by kernel_rfl)
    clear hs hd hl_ ho hQ
    rw [← hil] at hRk
    have hR3 := hRk.take (m := most) (by omega) (by omega) hon hO9
    replace hOw := hOw.step hon (.inl (.inl rfl))
    clear hC hon hO9
    show bodyPostM _ _ _ _ _ .ret _ _
    exact Y.ret0 (v := .tuple #[]) F (Y.rs0 rfl) ⟨rfl, _, _, by rw [put_in (x := ((k0, k1), ⟨xs, a, c⟩)) h8 (hpp.trans hpos), ← hx]; exact hR3, hOw, fun b e => (hRO b e.len).imp (fun z => z) (fun e => Nat.le_trans hGs e)⟩
  | true =>
   try rw [h10] at F
   have h10p : ((0 : Int) < i) := of_decide_eq_true h10
   obtain ⟨y, hy⟩ : ∃ y, L[i - 1]? = some y := ⟨_, List.getElem?_eq_getElem (by omega)⟩
   obtain ⟨g9, Lr, rfl, -⟩ := hRk.k.row (by omega)
   refine Y.region F [some (Vi i), some (.bool true), some (.bool true), some (.slice (some ⟨w.heap.size, 0, none⟩) 2 2), some (Vp rb), some (Vp rb), some (.pointer (some ⟨rb, 1, none⟩)), some (.slice (some ⟨g9, 0, none⟩) L.length kc), some (Vi i), some (Vi ((i : Int) - 1)), some (.pointer (some ⟨g9, (i - 1) * 2, none⟩)), some (.slice (some ⟨g9, (i - 1) * 2, none⟩) 2 2), some (Vi (cmpL [k0, k1] [y.1.1, y.1.2])), some (.bool (decide ((cmpL [k0, k1] [y.1.1, y.1.2] : Int) < 0))), some (.bool (decide ((cmpL [k0, k1] [y.1.1, y.1.2] : Int) < 0)))] [] rfl ⟨by kernel_rfl, of_decide_eq_true (by kernel_rfl), by kernel_rfl, by kernel_rfl, by kernel_rfl⟩ ⟨?_, ?_, ?_, ?_, ?_, ?_, ?_, ?_, ?_, ?_, ?_, ?_, ?_, ?_, ?_, trivial⟩ ?_
   ·intro ac done u W Sx hR
    exact X.vl (X.move rfl (Sx.ev 6 (Vi i))) hR.st0
   ·intro ac done u W Sx hR
    exact X.vl (X.binop rfl (Sx.ev 15 (Vi i)) (X.kc (Vi 0) rfl) (X.gtrI Try.underlying3 h10)) hR.st0
   ·intro ac done u W Sx hR
    exact X.vl (X.move rfl (Sx.ev 16 (.bool true))) hR.st0
   ·intro ac done u W Sx hR
    exact X.val (X.w1 rfl (Sx.yl 2 17 true (by kernel_rfl) rfl rfl)) rfl (Y.slAr (p := ⟨w.heap.size, 0, none⟩) rfl (Sx.ev 4 (Vp w.heap.size)) Try.underlying92 (fun W => Try.siz3 W) (by decide)) hR.st0
   ·intro ac done u W Sx hR
    exact X.val (X.w1 rfl (Sx.yl 2 17 true (by kernel_rfl) rfl rfl)) rfl (X.move rfl (Sx.ev 0 (Vp rb))) hR.st0
   ·intro ac done u W Sx hR
    exact X.val (X.w1 rfl (Sx.yl 2 17 true (by kernel_rfl) rfl rfl)) rfl (Y.nilC rfl (Sx.ev 19 (Vp rb))) hR.st0
   ·intro ac done u W Sx hR
    exact X.val (X.w1 rfl (Sx.yl 2 17 true (by kernel_rfl) rfl rfl)) rfl (X.field rfl (Sx.ev 20 (Vp rb)) (X.fld Try.underlying91 rfl (Try.siz89 _) rfl rfl)) hR.st0
   ·intro ac done u W Sx hR
    have g : Gr w9 W := hR.1
    exact X.val (X.w1 rfl (Sx.yl 2 17 true (by kernel_rfl) rfl rfl)) rfl (X.load rfl (Sx.ev 21 (.pointer (some ⟨rb, 1, none⟩))) (X.ld1 (Try.agg89 _) ((hC.gr g).at 3 rfl))) hR.st0
   ·intro ac done u W Sx hR
    exact X.val (X.w1 rfl (Sx.yl 2 17 true (by kernel_rfl) rfl rfl)) rfl (X.move rfl (Sx.ev 6 (Vi i))) hR.st0
   ·intro ac done u W Sx hR
    exact X.val (X.w1 rfl (Sx.yl 2 17 true (by kernel_rfl) rfl rfl)) rfl (X.binop rfl (Sx.ev 23 (Vi i)) (X.kc (Vi 1) rfl) (X.subI Try.underlying3 rfl (by omega) (by omega))) hR.st0
   ·intro ac done u W Sx hR
    exact X.val (X.w1 rfl (Sx.yl 2 17 true (by kernel_rfl) rfl rfl)) rfl (X.index rfl (Sx.ev 22 (.slice (some ⟨g9, 0, none⟩) L.length kc)) (Sx.ev 24 (Vi ((i : Int) - 1))) (X.idx (k := i - 1) Try.underlying89 (Try.siz92 _) (by omega) (by omega) (addr_add0 _ _))) hR.st0
   ·intro ac done u W Sx hR
    exact X.val (X.w1 rfl (Sx.yl 2 17 true (by kernel_rfl) rfl rfl)) rfl (Y.slAr (p := ⟨g9, (i - 1) * 2, none⟩) rfl (Sx.ev 25 (.pointer (some ⟨g9, (i - 1) * 2, none⟩))) Try.underlying92 (fun W => Try.siz3 W) (by decide)) hR.st0
   ·intro ac done u W Sx hR
    have g : Gr w9 W := hR.1
    refine X.call (X.w1 rfl (Sx.yl 2 17 true (by kernel_rfl) rfl rfl)) (X.enter (F := 90) rfl (X.kc (.func (.func 90) #[] #[]) rfl) (X.a2 (Sx.ev 18 (.slice (some ⟨w.heap.size, 0, none⟩) 2 2)) (Sx.ev 26 (.slice (some ⟨g9, (i - 1) * 2, none⟩) 2 2))) (enters_of Try.func90 (by kernel_rfl) rfl _)) (cmpL_any (some ⟨w.heap.size, 0, none⟩) (some ⟨g9, (i - 1) * 2, none⟩) 2 2 [k0, k1] [y.1.1, y.1.2] W (ints_2 ((hC.gr g).at 0 rfl) ((hC.gr g).at 1 rfl)) (key_ints ((hRk.gr g).k) rfl hy)) ?_
    rintro e W2 ⟨rfl, g2⟩
    exact ⟨_, rfl, X.kn rfl, hR.step g2 rfl⟩
   ·intro ac done u W Sx hR
    exact X.val (X.w1 rfl (Sx.yl 2 17 true (by kernel_rfl) rfl rfl)) rfl (X.binop rfl (Sx.ev 27 (Vi (cmpL [k0, k1] [y.1.1, y.1.2]))) (X.kc (Vi 0) rfl) (X.lssI Try.underlying3 rfl)) hR.st0
   ·intro ac done u W Sx hR
    exact X.vl (X.pickT rfl (Sx.ev 17 (.bool true)) (Sx.ev 28 (.bool (decide ((cmpL [k0, k1] [y.1.1, y.1.2] : Int) < 0))))) hR.st0
   intro ac u w16 hs hd hl ho hR
   have g : Gr w9 w16 := hR.1
   replace F : Fr ac 88 [(0, Vp rb), (2, .slice a xs.length c), (4, Vp w.heap.size), (6, Vi i), (29, .bool (decide ((cmpL [k0, k1] [y.1.1, y.1.2] : Int) < 0)))] := X.fr hs hd hl _ (by kernel_rfl)
   clear hs hd hl ho hR
   replace G := G.trans g
   replace hC := hC.gr g
   replace hO1 := hO1.thenGr g
   replace hRk := hRk.gr g
   clear g
   refine X.thenN ?_
   cases h17 : decide ((cmpL [k0, k1] [y.1.1, y.1.2] : Int) < 0) with
   | false =>
    try rw [h17] at F
    have h17p : ¬ ((cmpL [k0, k1] [y.1.1, y.1.2] : Int) < 0) := of_decide_eq_false h17
    have hlt9 : ltK (k0, k1) y.1 = false := (cmp_ltK (a := k0) (b := k1)).symm.trans h17
    have hpos := pos_ge (k := (k0, k1)) (by omega) hy hlt9
    refine Y.cF F 29 ?_
    refine Y.exit ?_
    refine X.thenX (X.thenX (X.blockX (X.thenN ?_)))
    refine Y.seq ?_
    have hlt9 := hRk.lt
    have hrB := hRk.rB
    have hGs := G.size
    obtain ⟨x, hx⟩ : ∃ x : (Int × Int) × BegE, x = ((k0, k1), ⟨xs, a, c⟩) := ⟨_, rfl⟩
    refine region_xi F [some (Vp rb), some (Vp rb), some (Vp rb), some (Vp rb), some (.pointer (some ⟨rb, 1, none⟩)), some (.slice (some ⟨g9, 0, none⟩) L.length kc), some (Vi i), some (.agg #[Vi k0, Vi k1]), none, none, some (Vp rb), some (Vp rb), some (.pointer (some ⟨rb, 2, none⟩)), some (.slice la L.length lc), some (Vi i), some (.slice a xs.length c), none, none, some (Vp rb), some (.pointer (some ⟨rb, 1, none⟩)), none, some (Vp rb), some (.pointer (some ⟨rb, 2, none⟩)), none] (RPt w16 B rb most L.length (.slice (some ⟨g9, 0, none⟩) L.length kc) (.slice la L.length lc) (keysV L) (keysV (insAt L i x)) [Vi k0, Vi k1] (begsV L) (begsV (insAt L i x)) [.slice a xs.length c]) rfl ⟨by kernel_rfl, of_decide_eq_true (by kernel_rfl), by kernel_rfl, by kernel_rfl, by kernel_rfl⟩ (fun _ => ⟨RPt.start (Gr.refl _) hRk.k hRk.l hRk.kl hRk.own, (RPt.start (Gr.drew _) (hRk.k.gr (Gr.drew _)) (hRk.l.gr (Gr.drew _)) hRk.kl (hRk.own.gr (Gr.drew _)))⟩) ⟨?_, ?_, ?_, ?_, ?_, ?_, ?_, ?_, ?_, ?_, ?_, ?_, ?_, ?_, ?_, ?_, ?_, ?_, ?_, ?_, ?_, ?_, ?_, ?_, trivial⟩ ?_
    ·intro ac done u W Sx hQ
     exact X.vl (X.move rfl (Sx.ev 0 (Vp rb))) (hQ.quiet (by decide))
    ·intro ac done u W Sx hQ
     exact X.vl (X.move rfl (Sx.ev 0 (Vp rb))) (hQ.quiet (by decide))
    ·intro ac done u W Sx hQ
     exact X.vl (X.move rfl (Sx.ev 0 (Vp rb))) (hQ.quiet (by decide))
    ·intro ac done u W Sx hQ
     exact X.vl (Y.nilC rfl (Sx.ev 34 (Vp rb))) (hQ.quiet (by decide))
    ·intro ac done u W Sx hQ
     exact X.vl (X.field rfl (Sx.ev 35 (Vp rb)) (X.fld Try.underlying91 rfl (Try.siz89 _) rfl rfl)) (hQ.quiet (by decide))
    ·intro ac done u W Sx hQ
     have hc9 := hQ.own.cell (k := 1) (by decide)
     rw [Sx.no 20 (by kernel_rfl)] at hc9
     exact X.vl (X.load rfl (Sx.ev 36 (.pointer (some ⟨rb, 1, none⟩))) (X.ld1 (Try.agg89 _) hc9)) (hQ.quiet (by decide))
    ·intro ac done u W Sx hQ
     exact X.vl (X.move rfl (Sx.ev 6 (Vi i))) (hQ.quiet (by decide))
    ·intro ac done u W Sx hQ
     have c0 := hQ.o.cell (hC.at 0 rfl) (fun e => by have h9 := hltW _ e; simp only at h9; omega)
     have c1 := hQ.o.cell (hC.at 1 rfl) (fun e => by have h9 := hltW _ e; simp only at h9; omega)
     exact X.vl (X.load rfl (Sx.ev 4 (Vp w.heap.size)) (X.ldN (Try.agg92 _) (Try.siz92 _) (Y.atz (⟨w.heap.size, 0, none⟩) (Y.AtFrom.cons c0 (Y.AtFrom.cons c1 (Y.AtFrom.nil _ _ _)))))) (hQ.quiet (by decide))
    ·intro ac done u W Sx hQ
     exact X.valN (X.w0 rfl) rfl (X.bs rfl (X.b1 (Sx.ev 39 (.agg #[Vi k0, Vi k1]))) (Try.bs89 _ _ _)) (hQ.s8 (Gr.alloc _ _) hQ.o.size (heap_alloc_new _ _))
    ·intro ac done u W Sx hQ
     obtain ⟨g8, e8, hg8, hp8⟩ := hQ.k8 (Sx.an 8 (by kernel_rfl)) Sx.nd
     obtain ⟨kc9, h1, h2, h3, h4, lc9, h5, h6, h7, h8, h9⟩ := hQ.kc
     have he := h1 Sx.nd
     subst he
     rw [Sx.nd] at h3
     simp only [Bool.false_eq_true, if_false] at h3
     have hcl := ins116_any B g8 L.length i (.slice (some ⟨g9, 0, none⟩) L.length kc) (keysV L) [Vi k0, Vi k1] W h3 (keys_all L) hiL hn (fun e => by have := hlt9 _ (.inr (.inl e)); omega) hp8 rfl rfl (Nat.le_trans hRk.BW hQ.o.size)
     refine X.call (X.w0 rfl) (X.enter (F := 116) rfl (X.kc (.func (.func 116) #[] #[]) rfl) (X.a3 (Sx.ev 37 (.slice (some ⟨g9, 0, none⟩) L.length kc)) (Sx.ev 38 (Vi i)) ((Sx.own 8 40 rfl).trans e8)) (enters_of Try.func116 (by kernel_rfl) rfl _)) hcl ?_
     rintro e W2 ⟨v2, rfl, hO2, ho2, hat2⟩
     rw [show (keysV L).take (i * 2) ++ [Vi k0, Vi k1] ++ (keysV L).drop (i * 2) = keysV (insAt L i x) by subst hx; exact keys_ins L i hiL ((k0, k1), ⟨xs, a, c⟩)] at hO2
     exact ⟨_, rfl, X.un rfl, hQ.s9 Sx.nd (Sx.no 20 (by kernel_rfl)) hlt9 hrB hO2 ho2 hat2 (fun e => by have := (hRk.k.ge e).1; omega)⟩
    ·intro ac done u W Sx hQ
     exact X.vl (X.move rfl (Sx.ev 0 (Vp rb))) (hQ.quiet (by decide))
    ·intro ac done u W Sx hQ
     exact X.vl (Y.nilC rfl (Sx.ev 42 (Vp rb))) (hQ.quiet (by decide))
    ·intro ac done u W Sx hQ
     exact X.vl (X.field rfl (Sx.ev 43 (Vp rb)) (X.fld Try.underlying91 rfl (Try.siz38 _) rfl rfl)) (hQ.quiet (by decide))
    ·intro ac done u W Sx hQ
     have hc9 := hQ.own.cell (k := 2) (by decide)
     rw [Sx.no 23 (by kernel_rfl)] at hc9
     exact X.vl (X.load rfl (Sx.ev 44 (.pointer (some ⟨rb, 2, none⟩))) (X.ld1 (Try.agg38 _) hc9)) (hQ.quiet (by decide))
    ·intro ac done u W Sx hQ
     exact X.vl (X.move rfl (Sx.ev 6 (Vi i))) (hQ.quiet (by decide))
    ·intro ac done u W Sx hQ
     exact X.vl (X.move rfl (Sx.ev 2 (.slice a xs.length c))) (hQ.quiet (by decide))
    ·intro ac done u W Sx hQ
     exact X.valN (X.w0 rfl) rfl (X.bs rfl (X.b1 (Sx.ev 47 (.slice a xs.length c))) (Try.bs38 _ _ _ _)) (hQ.s16 (Gr.alloc _ _) hQ.o.size (heap_alloc_new _ _))
    ·intro ac done u W Sx hQ
     obtain ⟨g8, e8, hg8, hp8⟩ := hQ.k16 (Sx.an 16 (by kernel_rfl)) Sx.nd
     obtain ⟨kc9, h1, h2, h3, h4, lc9, h5, h6, h7, h8, h9⟩ := hQ.kc
     have he := h5 Sx.nd
     subst he
     rw [Sx.nd] at h7
     simp only [Bool.false_eq_true, if_false] at h7
     have hcl := ins117_any B g8 L.length i (.slice la L.length lc) (begsV L) [.slice a xs.length c] W h7 (begs_all L) hiL hn (fun e => by have := hlt9 _ (.inr (.inr e)); omega) hp8 rfl rfl (Nat.le_trans hRk.BW hQ.o.size)
     refine X.call (X.w0 rfl) (X.enter (F := 117) rfl (X.kc (.func (.func 117) #[] #[]) rfl) (X.a3 (Sx.ev 45 (.slice la L.length lc)) (Sx.ev 46 (Vi i)) ((Sx.own 16 48 rfl).trans e8)) (enters_of Try.func117 (by kernel_rfl) rfl _)) hcl ?_
     rintro e W2 ⟨v2, rfl, hO2, ho2, hat2⟩
     rw [show (begsV L).take (i * 1) ++ [.slice a xs.length c] ++ (begsV L).drop (i * 1) = begsV (insAt L i x) by subst hx; exact begs_ins L i ((k0, k1), ⟨xs, a, c⟩)] at hO2
     exact ⟨_, rfl, X.un rfl, hQ.s17 Sx.nd (Sx.no 23 (by kernel_rfl)) hlt9 hrB hO2 ho2 hat2 (fun e => by have := (hRk.l.ge e).1; omega)⟩
    ·intro ac done u W Sx hQ
     exact X.vl (Y.nilC rfl (Sx.ev 32 (Vp rb))) (hQ.quiet (by decide))
    ·intro ac done u W Sx hQ
     exact X.vl (X.field rfl (Sx.ev 50 (Vp rb)) (X.fld Try.underlying91 rfl (Try.siz89 _) rfl rfl)) (hQ.quiet (by decide))
    ·intro ac done u W Sx hQ
     obtain ⟨a9, c9, e9⟩ : ∃ a c, u 9 = .slice a (L.length + 1) c := by
      obtain ⟨kc9, h1, h2, h3, h4, lc9, h5, h6, h7, h8, h9⟩ := hQ.kc
      have hd := Sx.an 9 (by kernel_rfl)
      rw [hd] at h3
      rw [if_pos rfl] at h3
      rw [← h2 hd]
      exact h3.form
     have hst := hQ.own.st1 (P := Try.prog) (t := 89) (k := 1) (v := u 9) (Try.siz89 _) (by rw [e9]; rfl) (by rw [e9]; rfl) (by decide)
     exact X.unit (X.w0 rfl) rfl (X.store rfl (Sx.ev 51 (.pointer (some ⟨rb, 1, none⟩))) (Sx.own 9 41 rfl) hst) (hQ.s20 hlt9 hrB)
    ·intro ac done u W Sx hQ
     exact X.vl (Y.nilC rfl (Sx.ev 33 (Vp rb))) (hQ.quiet (by decide))
    ·intro ac done u W Sx hQ
     exact X.vl (X.field rfl (Sx.ev 52 (Vp rb)) (X.fld Try.underlying91 rfl (Try.siz38 _) rfl rfl)) (hQ.quiet (by decide))
    ·intro ac done u W Sx hQ
     obtain ⟨a9, c9, e9⟩ : ∃ a c, u 17 = .slice a (L.length + 1) c := by
      obtain ⟨kc9, h1, h2, h3, h4, lc9, h5, h6, h7, h8, h9⟩ := hQ.kc
      have hd := Sx.an 17 (by kernel_rfl)
      rw [hd] at h7
      rw [if_pos rfl] at h7
      rw [← h6 hd]
      exact h7.form
     have hst := hQ.own.st1 (P := Try.prog) (t := 38) (k := 2) (v := u 17) (Try.siz38 _) (by rw [e9]; rfl) (by rw [e9]; rfl) (by decide)
     exact X.unit (X.w0 rfl) rfl (X.store rfl (Sx.ev 53 (.pointer (some ⟨rb, 2, none⟩))) (Sx.own 17 49 rfl) hst) (hQ.s23 hlt9 hrB)
    rintro ac u w18 hs hd hl_ ho hQ
    obtain ⟨kc9, h1, h2, h3, h4, lc9, h5, h6, h7, h8, h9⟩ := hQ.kc
    have e9 := h2 rfl
    have e17 := h6 rfl
    have hO9 : OwnP w18 rb 3 (VL [Vi most, u 9, u 17]) := hQ.own
    have h3 : OwnR w18 B 92 2 kc9 (L.length + 1) (keysV (insAt L i x)) := h3
    have h7 : OwnR w18 B 34 1 lc9 (L.length + 1) (begsV (insAt L i x)) := h7
    rw [← e9, ← e17] at hO9
    obtain ⟨ka2, kc2, rfl⟩ := h3.form
    obtain ⟨la2, lc2, rfl⟩ := h7.form
    obtain ⟨hR2, hRO⟩ := hRk.ins (x := x) hiL (by subst hx; exact (hBeg.gr G)) (by subst hx; exact hBO) hQ.o h3 h7 h4 h8 h9 hO9
    have hoo := hQ.o
    clear h1 h2 h5 h6 e9 e17 hQ h3 h7 h4 h8 h9
    replace F : Fr ac 88 [(0, Vp rb)] := X.fr hs hd hl_ _ (by kernel_rfl)
    clear hs hd hl_ ho
    have hOw : Only (RkO rb (.slice (some ⟨g9, 0, none⟩) L.length kc) (.slice la L.length lc)) w w18 := (G.only _).trans hoo
    clear hoo
    have hil := ins_len (x := x) hiL
    clear hC G
    have hRw : RkAt w18 rb B most (.slice ka2 (L.length + 1) kc2) (.slice la2 (L.length + 1) lc2) (insAt L i x) := hR2
    clear hRk hR2
    have hRk := hRw
    clear hRw
    have G := Gr.refl w18
    have hR1 := hRk
    refine X.thenN ?_
    refine Y.seq ?_
    have hC : RCells w18 [(Ad rb 0, Vi most), (Ad rb 1, .slice ka2 (L.length + 1) kc2), (Ad rb 2, .slice la2 (L.length + 1) lc2)] := (RCells.cons (hRk.own.cell (k := 0) (by decide)) (RCells.cons (hRk.own.cell (k := 1) (by decide)) (RCells.cons (hRk.own.cell (k := 2) (by decide)) (RCells.nil _))))
    refine Y.region F [some (Vp rb), some (Vp rb), some (.pointer (some ⟨rb, 2, none⟩)), some (.slice la2 (L.length + 1) lc2), some (Vi (L.length + 1)), some (Vp rb), some (Vp rb), some (Vp rb), some (Vi most), some (.bool (decide ((most : Int) < (L.length + 1))))] [] rfl ⟨by kernel_rfl, of_decide_eq_true (by kernel_rfl), by kernel_rfl, by kernel_rfl, by kernel_rfl⟩ ⟨?_, ?_, ?_, ?_, ?_, ?_, ?_, ?_, ?_, ?_, trivial⟩ ?_
    ·intro ac done u W Sx hR
     exact X.vl (X.move rfl (Sx.ev 0 (Vp rb))) hR.st0
    ·intro ac done u W Sx hR
     exact X.vl (Y.nilC rfl (Sx.ev 54 (Vp rb))) hR.st0
    ·intro ac done u W Sx hR
     exact X.vl (X.field rfl (Sx.ev 55 (Vp rb)) (X.fld Try.underlying91 rfl (Try.siz38 _) rfl rfl)) hR.st0
    ·intro ac done u W Sx hR
     have g : Gr w18 W := hR.1
     exact X.vl (X.load rfl (Sx.ev 56 (.pointer (some ⟨rb, 2, none⟩))) (X.ld1 (Try.agg38 _) ((hC.gr g).at 2 rfl))) hR.st0
    ·intro ac done u W Sx hR
     exact X.vl (X.len1 Try.underlying38 rfl (Sx.ev 57 (.slice la2 (L.length + 1) lc2))) hR.st0
    ·intro ac done u W Sx hR
     exact X.vl (X.move rfl (Sx.ev 0 (Vp rb))) hR.st0
    ·intro ac done u W Sx hR
     exact X.vl (Y.nilC rfl (Sx.ev 59 (Vp rb))) hR.st0
    ·intro ac done u W Sx hR
     exact X.vl (X.field rfl (Sx.ev 60 (Vp rb)) (X.fld Try.underlying91 rfl (Try.siz3 _) rfl rfl)) hR.st0
    ·intro ac done u W Sx hR
     have g : Gr w18 W := hR.1
     exact X.vl (X.load rfl (Sx.ev 61 (Vp rb)) (X.ld1 (Try.agg3 _) ((hC.gr g).at 0 rfl))) hR.st0
    ·intro ac done u W Sx hR
     exact X.vl (X.binop rfl (Sx.ev 58 (Vi (L.length + 1))) (Sx.ev 62 (Vi most)) (X.gtrI Try.underlying3 rfl)) hR.st0
    intro ac u w19 hs hd hl ho hR
    have g : Gr w18 w19 := hR.1
    replace F : Fr ac 88 [(0, Vp rb), (63, .bool (decide ((most : Int) < (L.length + 1))))] := X.fr hs hd hl _ (by kernel_rfl)
    clear hs hd hl ho hR
    replace G := G.trans g
    replace hC := hC.gr g
    replace hOw := hOw.thenGr g
    replace hRk := hRk.gr g
    clear g
    refine X.thenN ?_
    cases h20 : decide ((most : Int) < (L.length + 1)) with
    | false =>
     try rw [h20] at F
     have h20p : ¬ ((most : Int) < (L.length + 1)) := of_decide_eq_false h20
     refine Y.cF F 63 ?_
     refine Y.skip ?_
     show bodyPostM _ _ _ _ _ .ret _ _
     exact Y.ret0 (v := .tuple #[]) F (Y.rs0 rfl) ⟨rfl, _, _, by rw [put_in (x := ((k0, k1), ⟨xs, a, c⟩)) h8 (hpp.trans hpos), ← hx, List.take_of_length_le (by rw [hil]; omega)]; exact hRk, hOw, fun b e => (hRO b e).imp (fun z => z) (fun e => Nat.le_trans hGs e)⟩
    | true =>
     try rw [h20] at F
     have h20p : ((most : Int) < (L.length + 1)) := of_decide_eq_true h20
     refine Y.cT F 63 ?_
     have hkl9 : L.length + 1 ≤ kc2 := by have h8 := hRk.k; rw [hil] at h8; exact h8.le
     have hll9 : L.length + 1 ≤ lc2 := by have h8 := hRk.l; rw [hil] at h8; exact h8.le
     refine region_xi F [some (Vp rb), some (Vp rb), some (Vp rb), some (Vp rb), some (.pointer (some ⟨rb, 1, none⟩)), some (.slice ka2 (L.length + 1) kc2), some (Vp rb), some (Vp rb), some (Vp rb), some (Vi most), some (.slice ka2 most kc2), some (Vp rb), some (Vp rb), some (.pointer (some ⟨rb, 2, none⟩)), some (.slice la2 (L.length + 1) lc2), some (Vp rb), some (Vp rb), some (Vp rb), some (Vi most), some (.slice la2 most lc2), some (Vp rb), some (.pointer (some ⟨rb, 1, none⟩)), none, some (Vp rb), some (.pointer (some ⟨rb, 2, none⟩)), none] (RS2 w19 rb 22 25 (Vi most) (.slice ka2 (L.length + 1) kc2) (.slice la2 (L.length + 1) lc2) (.slice ka2 most kc2) (.slice la2 most lc2)) rfl ⟨by kernel_rfl, of_decide_eq_true (by kernel_rfl), by kernel_rfl, by kernel_rfl, by kernel_rfl⟩ (fun _ => ⟨RS2.start (Only.refl _ _) hRk.own, RS2.start ((Gr.drew _).only _) (hRk.own.gr (Gr.drew _))⟩) ⟨?_, ?_, ?_, ?_, ?_, ?_, ?_, ?_, ?_, ?_, ?_, ?_, ?_, ?_, ?_, ?_, ?_, ?_, ?_, ?_, ?_, ?_, ?_, ?_, ?_, ?_, trivial⟩ ?_
     ·intro ac done u W Sx hQ
      exact X.vl (X.move rfl (Sx.ev 0 (Vp rb))) (hQ.quiet (by decide))
     ·intro ac done u W Sx hQ
      exact X.vl (X.move rfl (Sx.ev 0 (Vp rb))) (hQ.quiet (by decide))
     ·intro ac done u W Sx hQ
      exact X.vl (X.move rfl (Sx.ev 0 (Vp rb))) (hQ.quiet (by decide))
     ·intro ac done u W Sx hQ
      exact X.vl (Y.nilC rfl (Sx.ev 66 (Vp rb))) (hQ.quiet (by decide))
     ·intro ac done u W Sx hQ
      exact X.vl (X.field rfl (Sx.ev 67 (Vp rb)) (X.fld Try.underlying91 rfl (Try.siz89 _) rfl rfl)) (hQ.quiet (by decide))
     ·intro ac done u W Sx hQ
      have hc9 := hQ.own.cell (k := 1) (by decide)
      rw [Sx.no 22 (by kernel_rfl)] at hc9
      exact X.vl (X.load rfl (Sx.ev 68 (.pointer (some ⟨rb, 1, none⟩))) (X.ld1 (Try.agg89 _) hc9)) (hQ.quiet (by decide))
     ·intro ac done u W Sx hQ
      exact X.vl (X.move rfl (Sx.ev 0 (Vp rb))) (hQ.quiet (by decide))
     ·intro ac done u W Sx hQ
      exact X.vl (Y.nilC rfl (Sx.ev 70 (Vp rb))) (hQ.quiet (by decide))
     ·intro ac done u W Sx hQ
      exact X.vl (X.field rfl (Sx.ev 71 (Vp rb)) (X.fld Try.underlying91 rfl (Try.siz3 _) rfl rfl)) (hQ.quiet (by decide))
     ·intro ac done u W Sx hQ
      have hc9 := hQ.own.cell (k := 0) (by decide)
      exact X.vl (X.load rfl (Sx.ev 72 (Vp rb)) (X.ld1 (Try.agg3 _) hc9)) (hQ.quiet (by decide))
     ·intro ac done u W Sx hQ
      exact X.vl (Y.slH (k := most) rfl (Sx.ev 69 (.slice ka2 (L.length + 1) kc2)) (Sx.ev 73 (Vi most)) Try.underlying89 (Try.siz92 _) (by omega) (by omega)) (hQ.quiet (by decide))
     ·intro ac done u W Sx hQ
      exact X.vl (X.move rfl (Sx.ev 0 (Vp rb))) (hQ.quiet (by decide))
     ·intro ac done u W Sx hQ
      exact X.vl (Y.nilC rfl (Sx.ev 75 (Vp rb))) (hQ.quiet (by decide))
     ·intro ac done u W Sx hQ
      exact X.vl (X.field rfl (Sx.ev 76 (Vp rb)) (X.fld Try.underlying91 rfl (Try.siz38 _) rfl rfl)) (hQ.quiet (by decide))
     ·intro ac done u W Sx hQ
      have hc9 := hQ.own.cell (k := 2) (by decide)
      rw [Sx.no 25 (by kernel_rfl)] at hc9
      exact X.vl (X.load rfl (Sx.ev 77 (.pointer (some ⟨rb, 2, none⟩))) (X.ld1 (Try.agg38 _) hc9)) (hQ.quiet (by decide))
     ·intro ac done u W Sx hQ
      exact X.vl (X.move rfl (Sx.ev 0 (Vp rb))) (hQ.quiet (by decide))
     ·intro ac done u W Sx hQ
      exact X.vl (Y.nilC rfl (Sx.ev 79 (Vp rb))) (hQ.quiet (by decide))
     ·intro ac done u W Sx hQ
      exact X.vl (X.field rfl (Sx.ev 80 (Vp rb)) (X.fld Try.underlying91 rfl (Try.siz3 _) rfl rfl)) (hQ.quiet (by decide))
     ·intro ac done u W Sx hQ
      have hc9 := hQ.own.cell (k := 0) (by decide)
      exact X.vl (X.load rfl (Sx.ev 81 (Vp rb)) (X.ld1 (Try.agg3 _) hc9)) (hQ.quiet (by decide))
     ·intro ac done u W Sx hQ
      exact X.vl (Y.slH (k := most) rfl (Sx.ev 78 (.slice la2 (L.length + 1) lc2)) (Sx.ev 82 (Vi most)) Try.underlying38 (Try.siz34 _) (by omega) (by omega)) (hQ.quiet (by decide))
     ·intro ac done u W Sx hQ
      exact X.vl (Y.nilC rfl (Sx.ev 64 (Vp rb))) (hQ.quiet (by decide))
     ·intro ac done u W Sx hQ
      exact X.vl (X.field rfl (Sx.ev 84 (Vp rb)) (X.fld Try.underlying91 rfl (Try.siz89 _) rfl rfl)) (hQ.quiet (by decide))
     ·intro ac done u W Sx hQ
      exact X.unit (X.w0 rfl) rfl (X.store rfl (Sx.ev 85 (.pointer (some ⟨rb, 1, none⟩))) (Sx.ev 74 (.slice ka2 most kc2)) (hQ.own.st1 (Try.siz89 _) rfl rfl (by decide))) (hQ.st1 (by decide))
     ·intro ac done u W Sx hQ
      exact X.vl (Y.nilC rfl (Sx.ev 65 (Vp rb))) (hQ.quiet (by decide))
     ·intro ac done u W Sx hQ
      exact X.vl (X.field rfl (Sx.ev 86 (Vp rb)) (X.fld Try.underlying91 rfl (Try.siz38 _) rfl rfl)) (hQ.quiet (by decide))
     ·intro ac done u W Sx hQ
      exact X.unit (X.w0 rfl) rfl (X.store rfl (Sx.ev 87 (.pointer (some ⟨rb, 2, none⟩))) (Sx.ev 83 (.slice la2 most lc2)) (hQ.own.st1 (Try.siz38 _) rfl rfl (by decide))) (hQ.st2 (by decide))
     rintro ac u w21 hs hd hl_ ho hQ
     have hO9 : OwnP w21 rb 3 (VL [Vi most, .slice ka2 most kc2, .slice la2 most lc2]) := hQ.own
     have hon := hQ.o
     replace F : Fr ac 88 [] := X.fr hs hd hl_ _ (by kernel_rfl)
     clear hs hd hl_ ho hQ
     rw [← hil] at hRk
     have hR3 := hRk.take (m := most) (by omega) (by omega) hon hO9
     replace hOw := hOw.step hon (.inl (.inl rfl))
     clear hC hon hO9
     show bodyPostM _ _ _ _ _ .ret _ _
     exact Y.ret0 (v := .tuple #[]) F (Y.rs0 rfl) ⟨rfl, _, _, by rw [put_in (x := ((k0, k1), ⟨xs, a, c⟩)) h8 (hpp.trans hpos), ← hx]; exact hR3, hOw, fun b e => (hRO b e.len).imp (fun z => z) (fun e => Nat.le_trans hGs e)⟩
   | true =>
    try rw [h17] at F
    have h17p : ((cmpL [k0, k1] [y.1.1, y.1.2] : Int) < 0) := of_decide_eq_true h17
    have hlt9 : ltK (k0, k1) y.1 = true := (cmp_ltK (a := k0) (b := k1)).symm.trans h17
    have hpn := pos_lt (k := (k0, k1)) (by omega) hy hlt9
    refine Y.cT F 29 ?_
    refine Y.skip ?_
    refine X.thenN ?_
    refine Y.block ?_
    refine Y.lit (by kernel_rfl) ?_
    refine Y.pv3 F (X.move rfl (F.ev 6 (Vi i))) (fun _ F=>X.binop rfl (F.ev 30 (Vi i)) (X.kc (Vi 1) rfl) (X.subI Try.underlying3 rfl (by omega) (by omega))) (fun _ F=>X.assign rfl (F.ev 31 (Vi ((i : Int) - 1)))) ?_;clear F ac;intro ac F
    refine Y.nil ?_
    replace F : Fr ac 88 [(0, Vp rb), (2, .slice a xs.length c), (4, Vp w.heap.size), (6, Vi ((i : Int) - 1))] := F.sub _
    refine X.blockN (X.thenN ?_)
    refine ⟨_, ?_, i - 1, rfl, hO1, by omega, hpp.trans hpn, (by rw [show ((i - 1 : Nat) : Int) = (i : Int) - 1 by omega]; exact F.sub _)⟩
    omega
 | true =>
  try rw [h8] at F
  refine Y.cT F 9 ?_
  refine Y.ret ?_
  refine X.thenR ?_
  exact Y.ret0 (v := .tuple #[]) F (Y.rs0 rfl) ⟨rfl, _, _, by rw [put_full h8]; exact hRk, G.only _, fun b e => .inl e⟩
end
section
set_option linter.unusedVariables false
open Go.RowKit
/-- a return behind one range -/
theorem ret_mark {P : Program} {fn : Func} {R : Ending → World → Prop} {A : Act} {W : World} {v : Value} {N k : Nat} {L : List (Nat × Value)} (F : Fr A N L [{ target := .collected k, args := #[] }]) (hk : W.heap[k]? = some (.deferred (some [])))
    (hr : (results fn A.tmps).run P (W.putObj k (.deferred none)) = .ok v (W.putObj k (.deferred none))) (h : ∀ W2, Only (fun b => b = k) W W2 → R (.returned v) W2) : bodyPostM Fence.wide 0 P fn R .ret A W :=
  Y.ret1 F hk hr (h _ (putObj_only _ _ _))
theorem Y.stNew1 {P : Program} {W : World} {t T : TypeId} (v z : Value) (hS : (sizeOf t).run P (W.alloc (.cells #[z] T)) = .ok 1 (W.alloc (.cells #[z] T))) (hv : v.cells = #[v]) (hv1 : v.oneCell' = true) :
    (Instr.storeAt t (.pointer (some ⟨W.heap.size, 0, none⟩)) v).run P (W.alloc (.cells #[z] T)) = .ok () (W.alloc (.cells #[v] T)) := by
  have h := Y.st1 (P := P) (p := ⟨W.heap.size, 0, none⟩) hS hv hv1 (v0 := z) (cell_new (by simp)) (Y.fresh_fz W #[z] T 0)
  rw [h, Y.alloc_set]
  rfl
theorem Try.bd91 (x : Int) (w : World) : (Instr.build 91 #[(0, .int .i64 x)]).run Try.prog w = .ok (.agg #[.int .i64 x, .slice none 0 0, .slice none 0 0]) w := by kernel_rfl
theorem Try.bd92 (x y : Int) (w : World) : (Instr.build 92 #[(0, .int .i64 x), (1, .int .i64 y)]).run Try.prog w = .ok (.agg #[.int .i64 x, .int .i64 y]) w := by kernel_rfl
/-- a round: the new state; whether it goes deeper; whether it goes on -/
def stF (p : Pb) (most : Nat) (mv : List Int → Int × Bool) (s : List ((Int × Int) × List Int)) (xs : List Int) : List ((Int × Int) × List Int) × Bool × Bool :=
  if hopeB p (tim p) xs then (s, true, true)
  else if !(mv xs).2 || fullR most s ((mv xs).1, bndV p xs) then (s, false, true)
  else if xs.length = p.nt then (putR most s (((mv xs).1, bndV p xs), xs), true, true) else (s, true, true)
section
variable {p : Pb} {most : Nat} {mv : List Int → Int × Bool} {s : List ((Int × Int) × List Int)} {xs : List Int}
theorem stF_h (h : hopeB p (tim p) xs = true) : stF p most mv s xs = (s, true, true) := by unfold stF; rw [if_pos h]
theorem stF_c (h : hopeB p (tim p) xs = false) (k : (mv xs).2 = false ∨ fullR most s ((mv xs).1, bndV p xs) = true) : stF p most mv s xs = (s, false, true) := by
  unfold stF; rw [if_neg (by rw [h]; decide), if_pos (by rcases k with k | k <;> simp [k])]
theorem stF_p (h : hopeB p (tim p) xs = false) (k1 : (mv xs).2 = true) (k2 : fullR most s ((mv xs).1, bndV p xs) = false) (l : xs.length = p.nt) : stF p most mv s xs = (putR most s (((mv xs).1, bndV p xs), xs), true, true) := by
  unfold stF; rw [if_neg (by rw [h]; decide), if_neg (by simp [k1, k2]), if_pos l]
theorem stF_n (h : hopeB p (tim p) xs = false) (k1 : (mv xs).2 = true) (k2 : fullR most s ((mv xs).1, bndV p xs) = false) (l : ¬ xs.length = p.nt) : stF p most mv s xs = (s, true, true) := by
  unfold stF; rw [if_neg (by rw [h]; decide), if_neg (by simp [k1, k2]), if_neg l]
end
theorem put_len {L : RkL} {most : Nat} {x : (Int × Int) × BegE} (h : L.length ≤ most) : (putR most L x).length ≤ most := by
  unfold putR
  split
  · exact h
  · rw [List.length_take]; omega
theorem put_mem {L : RkL} {most : Nat} {x y : (Int × Int) × BegE} (h : y ∈ putR most L x) : y = x ∨ y ∈ L := by
  unfold putR at h
  split at h
  · exact .inr h
  · exact ins_mem (List.mem_of_mem_take h)
/-- where the begins of the first ones lie -/
def RkP (L : RkL) (b : Nat) : Prop := ∃ x ∈ L, ∃ ad, x.2.a = some ad ∧ ad.block = b
/-- what holds between two rounds -/
def RkK (rb B most : Nat) (s : List ((Int × Int) × List Int)) (O Kp : Nat → Prop) (W : World) : Prop :=
  ∃ kv lv L, strip L = s ∧ RkAt W rb B most kv lv L ∧ O = RkO rb kv lv ∧ Kp = RkP L ∧ L.length ≤ most ∧ (∀ b, Kp b → B + 2 ≤ b)
section
variable {rb B most : Nat} {s : List ((Int × Int) × List Int)} {O Kp : Nat → Prop} {W W' : World}
theorem RkK.lt (h : RkK rb B most s O Kp W) : ∀ b, O b ∨ Kp b → b < W.heap.size := by
  obtain ⟨kv, lv, L, hs, hR, rfl, rfl, hm, hl⟩ := h
  rintro b (e | ⟨x, hx, ad, e, rfl⟩)
  · exact hR.lt b e
  · exact ((hR.b x hx).ge ad e).2
theorem RkK.gr (h : RkK rb B most s O Kp W) (g : Gr W W') : RkK rb B most s O Kp W' := by
  obtain ⟨kv, lv, L, hs, hR, h1, h2, hm, hl⟩ := h
  exact ⟨kv, lv, L, hs, hR.gr g, h1, h2, hm, hl⟩
theorem RkK.only {Yb : Nat → Prop} (h : RkK rb B most s O Kp W) (hY : ∀ b, Yb b → b < B) (hO : ∀ b, O b → Yb b ∨ B + 2 ≤ b) (g : Only (fun b => b = B + 1) W W') : RkK rb B most s O Kp W' := by
  obtain ⟨kv, lv, L, hs, hR, h1, h2, hm, hl⟩ := h
  refine ⟨kv, lv, L, hs, hR.only g (fun b hb e => ?_) (fun x hx ad e k => ?_), h1, h2, hm, hl⟩
  · rcases hO b (h1 ▸ hb) with k | k
    · have := hY b k; omega
    · omega
  · have := hl ad.block (h2 ▸ ⟨x, hx, ad, e, rfl⟩)
    omega
theorem RkK.start (h : OwnP W rb 3 (VL [.int .i64 most, .slice none 0 0, .slice none 0 0])) (hB : B ≤ W.heap.size) (hr : rb < B) : RkK rb B most [] (fun b => b = rb) (fun _ => False) W :=
  ⟨.slice none 0 0, .slice none 0 0, [], rfl, ⟨h, OwnR.nil _ _ _ _, OwnR.nil _ _ _ _, fun x hx => (by cases hx), fun x e => (by cases e), fun x hx => (by cases hx), hr, hB⟩, by
    funext b; simp [RkO, Value.ownBlock], by
    funext b; simp [RkP], Nat.zero_le _, fun b e => e.elim⟩
end
end
end Go.Proofs.Ytodedneanlekdaa
