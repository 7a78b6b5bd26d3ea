/- Several texts of this claim in one file. (1) Contracts: Equal, begins, plans, many. (2) Contract: slices.SortFunc of rows of numbers, by slices.Compare. (3) What Proves says of leaves, step by step. Nothing of the program is proved here. (4) The theorem of stage 3, without addresses. Nothing of the program is proved here. (5) The branches of a test meet again. Nothing of the program is proved here. (6) Contract: Proves. (7) The reference's answer to leaves; a region that makes a leaf anew and appends it. Nothing of the program is proved here. (8) Contracts: the reference's covered, Proves. -/
import Derived.Test.YtodedneanlekdaaBd15
import Derived.Test.YtodedneanlekdaaBd3
import Derived.Test.YtodedneanlekdaaShelf
import Derived.Test.YtodedneanlekdaaBd13
import Derived.Test.YtodedneanlekdaaBd14
import Derived.Test.YtodedneanlekdaaBd2
namespace Go.Proofs.Ytodedneanlekdaa
set_option linter.unusedSimpArgs false
set_option linter.unusedVariables false
section
open Go.RowKit

theorem pfx_no {a b : List Int} (h : ¬ b <+: a) : b.isPrefixOf a = false := by
  cases e : b.isPrefixOf a with
  | false => rfl
  | true => exact absurd (List.isPrefixOf_iff_prefix.1 e) h
/-- more leaves than are looked at, or a longer row -/
def manyB (E : List LfE) : Bool := !(allN (fun i => decide ((E[i]?.elim 0 fun x => x.b.xs.length) ≤ 30)) E.length) || decide ((700 : Int) < E.length)
theorem many_no {E : List LfE} (h : manyB E = false) : E.length ≤ 700 ∧ ∀ x ∈ E, x.b.xs.length ≤ 30 := by
  unfold manyB at h
  rw [Bool.or_eq_false_iff, Bool.not_eq_false', decide_eq_false_iff_not] at h
  refine ⟨by omega, fun x hx => ?_⟩
  obtain ⟨i, hi, e⟩ := List.getElem_of_mem hx
  have := allN_iff.1 h.1 i hi
  rw [List.getElem?_eq_getElem hi, e] at this
  exact of_decide_eq_true this
theorem many_yes {E : List LfE} {i : Nat} {x : LfE} (hx : E[i]? = some x) (h : ¬ x.b.xs.length ≤ 30) : manyB E = true := by
  unfold manyB
  cases e : allN (fun i => decide ((E[i]?.elim 0 fun x => x.b.xs.length) ≤ 30)) E.length with
  | false => rfl
  | true =>
    have hi := (List.getElem?_eq_some_iff.1 hx).1
    have := allN_iff.1 e i hi
    rw [hx] at this
    exact absurd (of_decide_eq_true this) h
theorem many_end {E : List LfE} (h : ∀ (j : Nat) (x : LfE), E[j]? = some x → x.b.xs.length ≤ 30) : manyB E = decide ((700 : Int) < E.length) := by
  unfold manyB
  rw [allN_iff.2 (fun i hi => by rw [List.getElem?_eq_getElem hi]; exact decide_eq_true (h i _ (List.getElem?_eq_getElem hi)))]
  rfl
set_option maxRecDepth 100000 in
set_option maxHeartbeats 400000 in
theorem equal_any (a b : Option Addr) (c d : Nat) (xs ys : List Int) (w : World) (hX : Ints w a xs.length xs) (hY : Ints w b ys.length ys) :
  Calls Try.prog 91 #[.slice a xs.length c, .slice b ys.length d] w fun e w' => e = .returned (.bool (decide (xs = ys))) ∧ Gr w w' := by
 have G := Gr.refl w
 have hx := hX
 have hy := hY
 have hxl := hx.lt
 have hyl := hy.lt
 refine Y.calls 26 Try.func91 rfl rfl ?_
 intro ac F0
 have F : Fr ac 26 [(0, .slice a xs.length c), (1, .slice b ys.length d)] := F0.sub _
 clear F0
 refine Y.sg F [(0, .slice a xs.length c), (1, .slice b ys.length d)] (Y.pv F (X.assign rfl (X.kc (.bool false) rfl)) fun ac F=>Y.fin F) ?_;clear F ac;intro ac F
 refine Y.seq ?_
 refine Y.sg F [(0, .slice a xs.length c), (1, .slice b ys.length d), (10, .bool ((xs.length : Int) != ys.length))] (Y.pv F (X.move rfl (F.ev 0 (.slice a xs.length c))) fun ac F=>Y.pv F (X.len1 Try.underlying34 rfl (F.ev 6 (.slice a xs.length c))) fun ac F=>Y.pv F (X.move rfl (F.ev 1 (.slice b ys.length d))) fun ac F=>Y.pv F (X.len1 Try.underlying34 rfl (F.ev 8 (.slice b ys.length d))) fun ac F=>Y.pv F (X.binop rfl (F.ev 7 (Vi xs.length)) (F.ev 9 (Vi ys.length)) (X.neqI Try.underlying3 rfl)) fun ac F=>Y.fin F) ?_;clear F ac;intro ac F
 cases h3 : ((xs.length : Int) != ys.length) with
 | false =>
  try rw [h3] at F
  have h3p : (xs.length : Int) = ys.length := by simpa using h3
  have hl2 : xs.length = ys.length := by omega
  refine Y.cF F 10 ?_
  refine Y.skip ?_
  refine X.thenN ?_
  refine Y.seq ?_
  refine Y.sg F [(0, .slice a xs.length c), (1, .slice b ys.length d), (12, Vi xs.length), (13, Vi 0)] (Y.pv F (X.move rfl (F.ev 0 (.slice a xs.length c))) fun ac F=>Y.pv F (X.len1 Try.underlying34 rfl (F.ev 11 (.slice a xs.length c))) fun ac F=>Y.pv F (X.move rfl (X.kc (Vi 0) rfl)) fun ac F=>Y.fin F) ?_;clear F ac;intro ac F
  refine Y.block ?_
  refine Y.loop (fun me_ ac wr => ∃ (i : Nat), me_ = xs.length - i ∧ Only (fun b => False) w wr ∧ i ≤ xs.length ∧ (∀ j, j < i → xs[j]?.getD 0 = ys[j]?.getD 0) ∧ Fr ac 26 [(0, .slice a xs.length c), (1, .slice b ys.length d), (12, Vi xs.length), (13, Vi i)]) _ ⟨0, rfl, Only.refl _ _, Nat.zero_le _, fun j h => by omega, F.sub _⟩ ?_
  have hxB1 := hx
  have hyB1 := hy
  have GB1 := G
  clear F ac
  intro me_ ac w4 hI
  obtain ⟨i, rfl, hO1, hi, hsame, F⟩ := hI
  replace G := GB1.trans (hO1.gr (fun _ _ h => h))
  replace hx := (hX).gr G
  replace hy := (hY).gr G
  refine Y.sg F [(0, .slice a xs.length c), (1, .slice b ys.length d), (12, Vi xs.length), (13, Vi i), (14, .bool (decide ((i : Int) < xs.length)))] (Y.pv F (X.binop rfl (F.ev 13 (Vi i)) (F.ev 12 (Vi xs.length)) (X.lssI Try.underlying3 rfl)) fun ac F=>Y.fin F) ?_;clear F ac;intro ac F
  refine Y.seq ?_
  cases h5 : decide ((i : Int) < xs.length) with
  | false =>
   try rw [h5] at F
   have h5p : ¬ ((i : Int) < xs.length) := of_decide_eq_false h5
   have hin : i = xs.length := by omega
   refine Y.cF F 14 ?_
   refine Y.exit ?_
   refine X.thenX (X.thenX (X.blockX (X.thenN ?_)))
   refine Y.sk F 4 (.bool true) ?_;clear F ac;intro ac F
   refine Y.ret ?_
   exact Y.ret0 (v := .bool true) F (Y.r1 F) ⟨by rw [same_yes hl2 (fun j hj => hsame j (by omega))], G⟩
  | true =>
   try rw [h5] at F
   have h5p : ((i : Int) < xs.length) := of_decide_eq_true h5
   refine Y.cT F 14 ?_
   refine Y.skip ?_
   refine X.thenN ?_
   refine Y.seq ?_
   refine Y.block ?_
   refine Y.sg F [(0, .slice a xs.length c), (1, .slice b ys.length d), (5, Vi i), (12, Vi xs.length), (13, Vi i)] (Y.pv F (X.move rfl (F.ev 13 (Vi i))) fun ac F=>Y.pv F (X.assign rfl (F.ev 15 (Vi i))) fun ac F=>Y.fin F) ?_;clear F ac;intro ac F
   refine Y.seq ?_
   obtain ⟨pd6, pe6, -, pc6⟩ := hx.at (j := i) (by omega)
   subst pe6
   have hC : RCells w4 [(pd6.add i, Vi (xs[i]?.getD 0))] := (RCells.cons pc6 (RCells.nil _))
   clear pc6
   obtain ⟨pd7, pe7, -, pc7⟩ := hy.at (j := i) (by omega)
   subst pe7
   replace hC := hC.append (show RCells w4 ([(pd7.add i, Vi (ys[i]?.getD 0))]) from (RCells.cons pc7 (RCells.nil _)))
   clear pc7
   refine Y.region F [some (.slice (some pd6) xs.length c), some (Vi i), some (.pointer (some (pd6.add i))), some (Vi (xs[i]?.getD 0)), some (.slice (some pd7) ys.length d), some (Vi i), some (.pointer (some (pd7.add i))), some (Vi (ys[i]?.getD 0)), some (.bool ((xs[i]?.getD 0 : Int) != (ys[i]?.getD 0)))] [] rfl ⟨by kernel_rfl, of_decide_eq_true (by kernel_rfl), by kernel_rfl, by kernel_rfl, by kernel_rfl⟩ ⟨?_, ?_, ?_, ?_, ?_, ?_, ?_, ?_, ?_, trivial⟩ ?_
   ·intro ac done u W Sx hR
    exact X.vl (X.move rfl (Sx.ev 0 (.slice (some pd6) xs.length c))) hR.st0
   ·intro ac done u W Sx hR
    exact X.vl (X.move rfl (Sx.ev 5 (Vi i))) hR.st0
   ·intro ac done u W Sx hR
    exact X.val (X.w0 rfl) rfl (X.index rfl (Sx.ev 16 (.slice (some pd6) xs.length c)) (Sx.ev 17 (Vi i)) (X.idx (k := i) Try.underlying34 (Try.siz3 _) (by omega) (by omega) (by rw [Nat.mul_one]))) hR.st0
   ·intro ac done u W Sx hR
    have g : Gr w4 W := hR.1
    exact X.vl (X.load rfl (Sx.ev 18 (.pointer (some (pd6.add i)))) (X.ld1 (Try.agg3 _) ((hC.gr g).at 0 rfl))) hR.st0
   ·intro ac done u W Sx hR
    exact X.vl (X.move rfl (Sx.ev 1 (.slice (some pd7) ys.length d))) hR.st0
   ·intro ac done u W Sx hR
    exact X.vl (X.move rfl (Sx.ev 5 (Vi i))) hR.st0
   ·intro ac done u W Sx hR
    exact X.val (X.w0 rfl) rfl (X.index rfl (Sx.ev 20 (.slice (some pd7) ys.length d)) (Sx.ev 21 (Vi i)) (X.idx (k := i) Try.underlying34 (Try.siz3 _) (by omega) (by omega) (by rw [Nat.mul_one]))) hR.st0
   ·intro ac done u W Sx hR
    have g : Gr w4 W := hR.1
    exact X.vl (X.load rfl (Sx.ev 22 (.pointer (some (pd7.add i)))) (X.ld1 (Try.agg3 _) ((hC.gr g).at 1 rfl))) hR.st0
   ·intro ac done u W Sx hR
    exact X.vl (X.binop rfl (Sx.ev 19 (Vi (xs[i]?.getD 0))) (Sx.ev 23 (Vi (ys[i]?.getD 0))) (X.neqI Try.underlying3 rfl)) hR.st0
   intro ac u w8 hs hd hl ho hR
   have g : Gr w4 w8 := hR.1
   replace F : Fr ac 26 [(0, .slice (some pd6) xs.length c), (1, .slice (some pd7) ys.length d), (12, Vi xs.length), (13, Vi i), (24, .bool ((xs[i]?.getD 0 : Int) != (ys[i]?.getD 0)))] := X.fr hs hd hl _ (by kernel_rfl)
   clear hs hd hl ho hR
   replace G := G.trans g
   replace hC := hC.gr g
   replace hO1 := hO1.thenGr g
   replace hx := hx.gr g
   replace hy := hy.gr g
   clear g
   refine X.thenN ?_
   cases h9 : ((xs[i]?.getD 0 : Int) != (ys[i]?.getD 0)) with
   | false =>
    try rw [h9] at F
    have h9p : (xs[i]?.getD 0 : Int) = (ys[i]?.getD 0) := by simpa using h9
    refine Y.cF F 24 ?_
    refine Y.skip ?_
    refine X.blockN (X.thenN ?_)
    refine Y.lg F [(0, .slice (some pd6) xs.length c), (1, .slice (some pd7) ys.length d), (12, Vi xs.length), (13, Vi ((i : Int) + 1))] (by
     refine Y.pv F (X.binop rfl (F.ev 13 (Vi i)) (X.kc (Vi 1) rfl) (X.addI Try.underlying3 rfl (by omega) (by omega))) fun ac F=>?_
     refine Y.pv F (X.move rfl (F.ev 25 (Vi ((i : Int) + 1)))) fun ac F=>?_
     exact Y.fin F) ?_;clear F ac;intro ac F
    refine ⟨_, ?_, i + 1, rfl, hO1, by omega, fun j hj => if e : j = i then by rw [e]; exact (by simpa using h9p) else hsame j (by omega), F.sub _⟩
    omega
   | true =>
    try rw [h9] at F
    have h9p : ¬ (xs[i]?.getD 0 : Int) = (ys[i]?.getD 0) := by simpa using h9
    refine Y.cT F 24 ?_
    refine Y.sk F 4 (.bool false) ?_;clear F ac;intro ac F
    refine Y.ret ?_
    refine X.blockR (X.thenR (X.thenR (X.blockR (X.thenR ?_))))
    exact Y.ret0 (v := .bool false) F (Y.r1 F) ⟨by rw [same_no (j := i) (by omega) hl2 (by simpa using h9p)], G⟩
 | true =>
  try rw [h3] at F
  have h3p : ¬ (xs.length : Int) = ys.length := by simpa using h3
  refine Y.cT F 10 ?_
  refine Y.sk F 4 (.bool false) ?_;clear F ac;intro ac F
  refine Y.ret ?_
  refine X.thenR ?_
  exact Y.ret0 (v := .bool false) F (Y.r1 F) ⟨by rw [show decide (xs = ys) = false by simp only [decide_eq_false_iff_not]; intro e; subst e; omega], G⟩
theorem pow_sm {n k : Nat} (h : n ≤ 6) (hk : k ≤ 10) : n ^ k ≤ 60466176 := by
 have h1 : n ^ k ≤ 6 ^ k := Nat.pow_le_pow_left h k
 have h2 : (6 : Nat) ^ k ≤ 6 ^ 10 := Nat.pow_le_pow_right (by decide) hk
 have h3 : (6 : Nat) ^ 10 = 60466176 := by decide
 omega
set_option maxRecDepth 100000 in
set_option maxHeartbeats 400000 in
theorem plansC_any (p : Pb) (ta ha ba la : Option Addr) (tc hc bc lc : Nat) (bp m : Nat) (w : World) (hP : PbAt w p ta ha ba la tc hc bc lc) (hq : RCells w [(⟨bp, 0, none⟩, .slice ta p.nt tc), (⟨bp, 1, none⟩, .slice ha p.nh hc), (⟨bp, 2, none⟩, .slice ba p.nb bc), (⟨bp, 3, none⟩, .slice la p.nl lc)]) (hh6 : p.nh ≤ 6) (hm : m ≤ 10) :
  Calls Try.prog 87 #[Vi m, Vp bp] w fun e w' => e = .returned (Vi ((p.nh ^ m : Nat) : Int)) ∧ Gr w w' := by
 have G := Gr.refl w
 have hpt := hP.t
 have hph := hP.h
 have hpb := hP.b
 have hpl := hP.l
 have hplen := hP.len
 obtain ⟨hn1, hn2, hn3, hn4⟩ := hplen
 have hcp1 := hpt.cap
 have hcp2 := hph.cap
 have hcp3 := hpb.cap
 have hcp4 := hpl.cap
 have hC := hq
 refine Y.calls 15 Try.func87 rfl rfl ?_
 intro ac F0
 have F : Fr ac 15 [(0, Vi m), (1, Vp bp)] := F0.sub _
 clear F0
 refine Y.sg F [(0, Vi m), (1, Vp bp)] (Y.pv F (X.assign rfl (X.kc (Vi 0) rfl)) fun ac F=>Y.fin F) ?_;clear F ac;intro ac F
 refine Y.sg F [(0, Vi m), (1, Vp bp), (4, Vi 1)] (Y.pv F (X.assign rfl (X.kc (Vi 1) rfl)) fun ac F=>Y.fin F) ?_;clear F ac;intro ac F
 refine Y.seq ?_
 refine Y.sg F [(1, Vp bp), (4, Vi 1), (5, Vi m), (6, Vi 0)] (Y.pv F (X.move rfl (F.ev 0 (Vi m))) fun ac F=>Y.pv F (X.move rfl (X.kc (Vi 0) rfl)) fun ac F=>Y.fin F) ?_;clear F ac;intro ac F
 refine Y.block ?_
 refine Y.loop (fun me_ ac wr => ∃ (k : Nat), me_ = m - k ∧ Only (fun b => False) w wr ∧ k ≤ m ∧ Fr ac 15 [(1, Vp bp), (4, Vi ((p.nh ^ k : Nat) : Int)), (5, Vi m), (6, Vi k)]) _ ⟨0, rfl, Only.refl _ _, Nat.zero_le _, F.sub _⟩ ?_
 have hptB1 := hpt
 have hphB1 := hph
 have hpbB1 := hpb
 have hplB1 := hpl
 have GB1 := G
 have hCB1 := hC
 clear F ac
 intro me_ ac w3 hI
 obtain ⟨k, rfl, hO1, hk, F⟩ := hI
 replace G := GB1.trans (hO1.gr (fun _ _ h => h))
 replace hpt := (hP.t).gr G
 replace hph := (hP.h).gr G
 replace hpb := (hP.b).gr G
 replace hpl := (hP.l).gr G
 replace hC := (RCells.cons (hO1.cell (hCB1.at 0 rfl) (fun h => h)) (RCells.cons (hO1.cell (hCB1.at 1 rfl) (fun h => h)) (RCells.cons (hO1.cell (hCB1.at 2 rfl) (fun h => h)) (RCells.cons (hO1.cell (hCB1.at 3 rfl) (fun h => h)) (RCells.nil _)))))
 refine Y.sg F [(1, Vp bp), (4, Vi ((p.nh ^ k : Nat) : Int)), (5, Vi m), (6, Vi k), (7, .bool (decide ((k : Int) < m)))] (Y.pv F (X.binop rfl (F.ev 6 (Vi k)) (F.ev 5 (Vi m)) (X.lssI Try.underlying3 rfl)) fun ac F=>Y.fin F) ?_;clear F ac;intro ac F
 refine Y.seq ?_
 cases h4 : decide ((k : Int) < m) with
 | false =>
  try rw [h4] at F
  have h4p : ¬ ((k : Int) < m) := of_decide_eq_false h4
  have hkm : k = m := by omega
  refine Y.cF F 7 ?_
  refine Y.exit ?_
  refine X.thenX (X.thenX (X.blockX (X.thenN ?_)))
  refine Y.sg F [(3, Vi ((p.nh ^ k : Nat) : Int))] (Y.pv F (X.move rfl (F.ev 4 (Vi ((p.nh ^ k : Nat) : Int)))) fun ac F=>Y.pv F (X.assign rfl (F.ev 14 (Vi ((p.nh ^ k : Nat) : Int)))) fun ac F=>Y.fin F) ?_;clear F ac;intro ac F
  refine Y.ret ?_
  exact Y.ret0 (v := Vi ((p.nh ^ k : Nat) : Int)) F (Y.r1 F) ⟨by rw [hkm], G⟩
 | true =>
  try rw [h4] at F
  have h4p : ((k : Int) < m) := of_decide_eq_true h4
  have hk2 : k < m := by omega
  have hpw0 := pow_sm hh6 (show k + 1 ≤ 10 by omega)
  rw [Nat.pow_succ] at hpw0
  have hpw : ((p.nh ^ k : Nat) : Int) * (p.nh : Int) ≤ 60466176 := by rw [← Int.natCast_mul]; omega
  have hpv : 0 ≤ ((p.nh ^ k : Nat) : Int) * (p.nh : Int) := by rw [← Int.natCast_mul]; omega
  refine Y.cT F 7 ?_
  refine Y.skip ?_
  refine X.thenN ?_
  refine Y.seq ?_
  refine Y.block ?_
  refine Y.lit (by kernel_rfl) ?_
  refine Y.pv4 F (X.move rfl (F.ev 4 (Vi ((p.nh ^ k : Nat) : Int)))) (fun _ F=>X.field rfl (F.ev 1 (Vp bp)) (X.fld Try.underlying27 rfl (Try.siz23 _) rfl rfl)) (fun _ F=>X.load rfl (F.ev 9 (.pointer (some ⟨bp, 1, none⟩))) (X.ld1 (Try.agg23 _) (hC.at 1 rfl))) (fun _ F=>X.len1 Try.underlying23 rfl (F.ev 10 (.slice ha p.nh hc))) fun ac F=>Y.pv2 F (X.binop rfl (F.ev 8 (Vi ((p.nh ^ k : Nat) : Int))) (F.ev 11 (Vi p.nh)) (X.mulI Try.underlying3 rfl (by omega) (by omega))) (fun _ F=>X.assign rfl (F.ev 12 (Vi ((((p.nh ^ k : Nat) : Int) : Int) * p.nh)))) ?_;clear F ac;intro ac F
  refine Y.nil ?_
  replace F : Fr ac 15 [(1, Vp bp), (4, Vi ((((p.nh ^ k : Nat) : Int) : Int) * p.nh)), (5, Vi m), (6, Vi k)] := F.sub _
  refine X.blockN (X.thenN ?_)
  refine Y.lg F [(1, Vp bp), (4, Vi ((((p.nh ^ k : Nat) : Int) : Int) * p.nh)), (5, Vi m), (6, Vi ((k : Int) + 1))] (by
   refine Y.pv F (X.binop rfl (F.ev 6 (Vi k)) (X.kc (Vi 1) rfl) (X.addI Try.underlying3 rfl (by omega) (by omega))) fun ac F=>?_
   refine Y.pv F (X.move rfl (F.ev 13 (Vi ((k : Int) + 1)))) fun ac F=>?_
   exact Y.fin F) ?_;clear F ac;intro ac F
  refine ⟨_, ?_, k + 1, rfl, hO1, by omega, (by rw [Nat.pow_succ, Int.natCast_mul]; exact F.sub _)⟩
  omega
set_option maxRecDepth 100000 in
set_option maxHeartbeats 400000 in
theorem many_any (a : Option Addr) (c : Nat) (E : List LfE) (w : World) (hL : LfAt w a E) (hn : E.length ≤ 1152921504606846975) :
  Calls Try.prog 47 #[.slice a E.length c] w fun e w' => e = .returned (.bool (manyB E)) ∧ Gr w w' := by
 have G := Gr.refl w
 have hl := hL
 refine Y.calls 20 Try.func47 rfl rfl ?_
 intro ac F0
 have F : Fr ac 20 [(0, .slice a E.length c)] := F0.sub _
 clear F0
 refine Y.sg F [(0, .slice a E.length c)] (Y.pv F (X.assign rfl (X.kc (.bool false) rfl)) fun ac F=>Y.fin F) ?_;clear F ac;intro ac F
 refine Y.seq ?_
 refine Y.sg F [(0, .slice a E.length c), (3, Vi 0)] (Y.pv F (X.assign rfl (X.kc (Vi 0) rfl)) fun ac F=>Y.fin F) ?_;clear F ac;intro ac F
 refine Y.block ?_
 refine Y.loop (fun me_ ac wr => ∃ (i : Nat), me_ = E.length - i ∧ Only (fun b => False) w wr ∧ i ≤ E.length ∧ (∀ (j : Nat) (x : LfE), j < i → E[j]? = some x → x.b.xs.length ≤ 30) ∧ Fr ac 20 [(0, .slice a E.length c), (3, Vi i)]) _ ⟨0, rfl, Only.refl _ _, Nat.zero_le _, fun j x h => by omega, F.sub _⟩ ?_
 have hlB1 := hl
 have GB1 := G
 clear F ac
 intro me_ ac w3 hI
 obtain ⟨i, rfl, hO1, hi, hsm, F⟩ := hI
 replace G := GB1.trans (hO1.gr (fun _ _ h => h))
 replace hl := (hL).gr G
 refine Y.seq ?_
 refine Y.sg F [(0, .slice a E.length c), (3, Vi i), (7, .bool (decide ((i : Int) < E.length)))] (Y.pv F (X.move rfl (F.ev 3 (Vi i))) fun ac F=>Y.pv F (X.move rfl (F.ev 0 (.slice a E.length c))) fun ac F=>Y.pv F (X.len1 Try.underlying45 rfl (F.ev 5 (.slice a E.length c))) fun ac F=>Y.pv F (X.binop rfl (F.ev 4 (Vi i)) (F.ev 6 (Vi E.length)) (X.lssI Try.underlying3 rfl)) fun ac F=>Y.fin F) ?_;clear F ac;intro ac F
 cases h4 : decide ((i : Int) < E.length) with
 | false =>
  try rw [h4] at F
  have h4p : ¬ ((i : Int) < E.length) := of_decide_eq_false h4
  have hin : i = E.length := by omega
  refine Y.cF F 7 ?_
  refine Y.exit ?_
  refine X.thenX (X.thenX (X.blockX (X.thenN ?_)))
  refine Y.sg F [(2, .bool (decide ((700 : Int) < E.length)))] (Y.pv F (X.move rfl (F.ev 0 (.slice a E.length c))) fun ac F=>Y.pv F (X.len1 Try.underlying45 rfl (F.ev 17 (.slice a E.length c))) fun ac F=>Y.pv F (X.binop rfl (F.ev 18 (Vi E.length)) (X.kc (Vi 700) rfl) (X.gtrI Try.underlying3 rfl)) fun ac F=>Y.pv F (X.assign rfl (F.ev 19 (.bool (decide ((700 : Int) < E.length))))) fun ac F=>Y.fin F) ?_;clear F ac;intro ac F
  refine Y.ret ?_
  exact Y.ret0 (v := .bool (decide ((700 : Int) < E.length))) F (Y.r1 F) ⟨by rw [many_end (fun j x h => hsm j x (by have := (List.getElem?_eq_some_iff.1 h).1; omega) h)], G⟩
 | true =>
  try rw [h4] at F
  have h4p : ((i : Int) < E.length) := of_decide_eq_true h4
  refine Y.cT F 7 ?_
  refine Y.skip ?_
  refine X.thenN ?_
  refine Y.seq ?_
  refine Y.block ?_
  refine Y.sl ?_
  refine Y.pv2 F (X.move rfl (F.ev 0 (.slice a E.length c))) (fun _ F=>X.move rfl (F.ev 3 (Vi i))) ?_;clear F ac;intro ac F
  obtain ⟨xf5, hxxf5⟩ : ∃ x, E[i]? = some x := ⟨_, List.getElem?_eq_getElem (by omega)⟩
  obtain ⟨pd5, pe5, pc5, pw5, pI5, -⟩ := hl i xf5 hxxf5
  subst pe5
  have hC : RCells w3 [(pd5.add (i * 2), .slice xf5.b.a xf5.b.xs.length xf5.b.c), (⟨(pd5.add (i * 2)).block, (pd5.add (i * 2)).off + 1, none⟩, Vi xf5.why)] := (RCells.cons pc5 (RCells.cons pw5 (RCells.nil _)))
  clear pc5
  refine Y.pv4 F (X.index rfl (F.ev 10 (.slice (some pd5) E.length c)) (F.ev 11 (Vi i)) (X.idx (k := i) Try.underlying45 (Try.siz49 _) (by omega) (by omega) rfl)) (fun _ F=>X.field rfl (F.ev 12 (.pointer (some (pd5.add (i * 2))))) (X.fld Try.underlying49 rfl (Try.siz34 _) rfl rfl)) (fun _ F=>X.load rfl (F.ev 13 (.pointer (some (pd5.add (i * 2))))) (X.ld1 (Try.agg34 _) (hC.at 0 rfl))) (fun _ F=>X.len1 Try.underlying34 rfl (F.ev 14 (.slice xf5.b.a xf5.b.xs.length xf5.b.c))) fun ac F=>Y.pv F (X.binop rfl (F.ev 15 (Vi xf5.b.xs.length)) (X.kc (Vi 30) rfl) (X.gtrI Try.underlying3 rfl)) ?_;clear F ac;intro ac F
  refine Y.nt F [(0, .slice (some pd5) E.length c), (3, Vi i), (16, .bool (decide ((30 : Int) < xf5.b.xs.length)))] ?_;clear F ac;intro ac F
  cases h6 : decide ((30 : Int) < xf5.b.xs.length) with
  | false =>
   try rw [h6] at F
   have h6p : ¬ ((30 : Int) < xf5.b.xs.length) := of_decide_eq_false h6
   refine Y.cF F 16 ?_
   refine Y.skip ?_
   refine X.blockN (X.thenN ?_)
   refine Y.lg F [(0, .slice (some pd5) E.length c), (3, Vi ((i : Int) + 1))] (by
    refine Y.pv F (X.move rfl (F.ev 3 (Vi i))) fun ac F=>?_
    refine Y.pv F (X.binop rfl (F.ev 8 (Vi i)) (X.kc (Vi 1) rfl) (X.addI Try.underlying3 rfl (by omega) (by omega))) fun ac F=>?_
    refine Y.pv F (X.assign rfl (F.ev 9 (Vi ((i : Int) + 1)))) fun ac F=>?_
    exact Y.fin F) ?_;clear F ac;intro ac F
   refine ⟨_, ?_, i + 1, rfl, hO1, by omega, fun j x hj h1 => if e : j = i then by subst e; rw [hxxf5] at h1; injection h1 with h1; subst h1; omega else hsm j x (by omega) h1, F.sub _⟩
   omega
  | true =>
   try rw [h6] at F
   have h6p : ((30 : Int) < xf5.b.xs.length) := of_decide_eq_true h6
   refine Y.cT F 16 ?_
   refine Y.sk F 2 (.bool true) ?_;clear F ac;intro ac F
   refine Y.ret ?_
   refine X.blockR (X.thenR (X.thenR (X.blockR (X.thenR ?_))))
   exact Y.ret0 (v := .bool true) F (Y.r1 F) ⟨by rw [many_yes hxxf5 (by omega)], G⟩
end
section
set_option linter.unusedVariables false
open Go.RowKit Go.Sort

theorem cmpI_anti (x y : Int) : cmpI y x = - cmpI x y := by
  rcases cmpI_v x y with ⟨k1, e1⟩ | ⟨k1, e1⟩ | ⟨k1, e1⟩ <;> rcases cmpI_v y x with ⟨k2, e2⟩ | ⟨k2, e2⟩ | ⟨k2, e2⟩ <;> omega
theorem cmpL_anti : ∀ (x y : List Int), cmpL y x = - cmpL x y := by
  intro x
  induction x with
  | nil => intro y; cases y <;> rfl
  | cons a x ih =>
    intro y
    cases y with
    | nil => rfl
    | cons b y =>
      simp only [cmpL]
      rw [cmpI_anti a b]
      by_cases h : cmpI a b = 0
      · have h2 : - cmpI a b = 0 := by omega
        rw [if_pos h, if_pos h2]; exact ih y
      · have h2 : ¬ - cmpI a b = 0 := by omega
        rw [if_neg h, if_neg h2]
theorem cmpL_self : ∀ xs : List Int, cmpL xs xs = 0 := by
  intro xs
  induction xs with
  | nil => rfl
  | cons x xs ih =>
    have e : cmpI x x = 0 := by unfold cmpI; simp
    simp [cmpL, e, ih]
theorem cmpL_trans : ∀ (x y z : List Int), cmpL x y ≤ 0 → cmpL y z ≤ 0 → cmpL x z ≤ 0 ∧ (cmpL x z = 0 → cmpL x y = 0 ∧ cmpL y z = 0) := by
  intro x
  induction x with
  | nil =>
    intro y z h1 h2
    cases y with
    | nil => exact ⟨h2, fun h => ⟨rfl, h⟩⟩
    | cons b y =>
      cases z with
      | nil => simp [cmpL] at h2
      | cons c z => exact ⟨by simp [cmpL], fun h => by simp [cmpL] at h⟩
  | cons a x ih =>
    intro y z h1 h2
    cases y with
    | nil => simp [cmpL] at h1
    | cons b y =>
      cases z with
      | nil => simp [cmpL] at h2
      | cons c z =>
        simp only [cmpL] at h1 h2 ⊢
        rcases cmpI_v a b with ⟨k1, e1⟩ | ⟨k1, e1⟩ | ⟨k1, e1⟩
        · rcases cmpI_v b c with ⟨k2, e2⟩ | ⟨k2, e2⟩ | ⟨k2, e2⟩
          · have : cmpI a c = -1 := by rcases cmpI_v a c with h | h | h <;> omega
            rw [this]; simp
          · subst k2; rw [e1]; simp
          · rw [e2] at h2; simp at h2
        · subst k1
          rcases cmpI_v a c with ⟨k2, e2⟩ | ⟨k2, e2⟩ | ⟨k2, e2⟩
          · rw [e2]; simp
          · subst k2
            rw [e2] at h1 h2 ⊢
            simp only [if_true] at h1 h2 ⊢
            exact ih y z h1 h2
          · rw [e2] at h2; simp at h2
        · rw [e1] at h1; simp at h1
theorem cmpL_swo {α : Type} (L : α → List Int) : SWO (ltOf fun i j => cmpL (L i) (L j)) where
  irrefl x := by simp [ltOf, cmpL_self]
  trans x y z h1 h2 := by
    simp only [ltOf, decide_eq_true_eq] at *
    have h := cmpL_trans (L x) (L y) (L z) (by omega) (by omega)
    by_cases e : cmpL (L x) (L z) = 0
    · have := h.2 e; omega
    · omega
  ntrans x y z h1 h2 := by
    simp only [ltOf, decide_eq_false_iff_not] at *
    have a1 := cmpL_anti (L x) (L y)
    have a2 := cmpL_anti (L y) (L z)
    have a3 := cmpL_anti (L x) (L z)
    have h := cmpL_trans (L z) (L y) (L x) (by omega) (by omega)
    omega

theorem sort_any {w W : World} {E : List BegE} {a : Option Addr} {c : Nat} (g0 : Gr w W) (hO : OwnR W w.heap.size 34 1 (.slice a E.length c) E.length (rowsV E)) (hI : ∀ x ∈ E, Ints w x.a x.xs.length x.xs) (h0 : 0 < E.length) (hl : E.length ≤ 1000000) :
    Calls Try.prog 89 #[.slice a E.length c, .func (.func 90) #[] #[]] W fun e w' => e = .returned (.tuple #[]) ∧ ∃ (g : Nat) (S : List BegE), a = some ⟨g, 0, none⟩ ∧ S.length = E.length ∧ (S.map BegE.xs).Perm (E.map BegE.xs) ∧ (∀ x ∈ S, x ∈ E) ∧ (∀ i j, i < j → j < (S.map BegE.xs).length → cmpL ((S.map BegE.xs)[i]?.getD []) ((S.map BegE.xs)[j]?.getD []) ≤ 0) ∧ RrAt w' a S ∧ Only (fun b => (Value.slice a E.length c).ownBlock = some b) W w' := by
  obtain ⟨g, Lr, rfl, hBg, hp, hle, hcm, hLl, hLt⟩ := hO.row h0
  have hg : W.heap[g]? = some (.cells Lr.toArray 34 (0, 0)) := hp
  have hgl : g < W.heap.size := hp.lt
  obtain ⟨n, hn⟩ : ∃ n, n = E.length := ⟨_, rfl⟩
  let dE : BegE := ⟨[], none, 0⟩
  let enc : Fin (n + 1) → Value := fun i => .slice (E[i.1]?.getD dE).a (E[i.1]?.getD dE).xs.length (E[i.1]?.getD dE).c
  let cf : Fin (n + 1) → Fin (n + 1) → Int := fun i j => cmpL (E[i.1]?.getD dE).xs (E[j.1]?.getD dE).xs
  let d : Array (Fin (n + 1)) := Array.ofFn (n := n) fun j => ⟨j.1, by omega⟩
  have hds : d.size = E.length := by simp [d, hn]
  have hdj : ∀ j, j < d.size → (d[j]!).1 = j := fun j hj => by
    rw [getElem!_pos d j hj]; simp [d]
  have hIE : ∀ i : Nat, Ints w (E[i]?.getD dE).a (E[i]?.getD dE).xs.length (E[i]?.getD dE).xs := fun i => by
    by_cases hi : i < E.length
    · rw [List.getElem?_eq_getElem hi]; exact hI _ (List.getElem_mem hi)
    · rw [List.getElem?_eq_none (by omega)]; exact Ints.nilZ w
  have hw : ∀ (m : Nat) (os : Array Obj) (dk : Array (Fin (n + 1))), Only (fun b => b = g) W (sortWorld enc W g 0 m dk os) := fun m os dk => by
    refine ⟨rfl, rfl, rfl, by simp [sortWorld], fun b hb hne => ?_⟩
    unfold sortWorld Go.Sort.grow putRow mapBlock Go.Sort.ahead
    simp only
    rw [Array.getElem?_append_left (by simpa using hb), Array.getElem?_modify, if_neg (fun e => hne e.symm)]
  have hgw : ∀ W2, Only (fun b => b = g) W W2 → Gr w W2 := fun W2 h => Y.Only.up g0 h (by omega)
  have hcmp : CmpLays1 Try.prog 90 #[] enc cf g 0 d.size W := fun m os dk _ x y => by
    refine (cmpL_same _ _ _ _ _ _ _ ((hIE x.1).gr (hgw _ (hw m os dk))) ((hIE y.1).gr (hgw _ (hw m os dk)))).mono ?_
    rintro e w' ⟨rfl, rfl⟩
    exact ⟨rfl, 0, #[], by simp [World.drewN]⟩
  have hH : Holds enc W g 0 d := fun j hj => by
    have hj' : j < E.length := by omega
    rw [Nat.zero_add]
    refine ⟨?_, by simp [World.frozen?, hg]⟩
    have h1 := own_cell hO (i := j) (u := enc d[j]!) (by
      show (rowsV E)[j]? = some (.slice (E[(d[j]!).1]?.getD dE).a (E[(d[j]!).1]?.getD dE).xs.length (E[(d[j]!).1]?.getD dE).c)
      rw [hdj j hj, List.getElem?_eq_getElem hj']
      simp [rowsV, hj'])
    exact h1
  have h1 : OneCell enc := fun i => rfl
  have hS := Any.slices_SortFunc (P := Try.prog) Try.sortL enc h1 cf (cmpL_swo fun i : Fin (n + 1) => (E[i.1]?.getD dE).xs) 90 #[] g 0 c d W (Go.Proofs.enters_of Try.func90 (by kernel_rfl) rfl) hcmp hH hgl (by omega)
  rw [hds] at hS
  refine hS.mono ?_
  rintro e w' ⟨rfl, d', q, os, hp, hs, rfl⟩
  obtain ⟨hsz, _, hperm⟩ := hp
  have hsz' : d'.size = E.length := by omega
  have hex : ∀ D : Array (Fin (n + 1)), D.size = E.length → D.extract 0 E.length = D := fun D h => by rw [← h]; simp
  rw [hex d hds, hex d' hsz'] at hperm
  have hmap : d.toList.map (fun i => E[i.1]?.getD dE) = E := by
    apply List.ext_getElem
    · simpa using hds
    · intro j h1 h2
      have hj : j < d.size := by simpa using h1
      have := hdj j hj
      rw [getElem!_pos d j hj] at this
      simp [this, h2]
  have hpS : (d'.toList.map (fun i => E[i.1]?.getD dE)).Perm E := by
    have := hperm.map (fun i => E[i.1]?.getD dE)
    rwa [hmap] at this
  have hget : ∀ j, j < d'.size → (d'.toList.map (fun i => E[i.1]?.getD dE))[j]? = some (E[(d'[j]!).1]?.getD dE) := fun j hj => by
    rw [getElem!_pos d' j hj]; simp [hj]
  have hgm : ∀ j, j < d'.size → ((d'.toList.map (fun i => E[i.1]?.getD dE)).map BegE.xs)[j]?.getD [] = (E[(d'[j]!).1]?.getD dE).xs := fun j hj => by
    have := congrArg (Option.map BegE.xs) (hget j hj)
    rw [← List.getElem?_map] at this
    rw [this]; rfl
  have hG := hgw _ (hw q os d')
  refine ⟨rfl, g, d'.toList.map (fun i => E[i.1]?.getD dE), rfl, by simpa using hsz', hpS.map _, fun x hx => hpS.mem_iff.1 hx, fun i j hij hj => ?_, fun i x hx => ?_, (hw q os d').mono' (fun b e => by subst e; rfl)⟩
  · have hj' : j < d'.size := by simpa using hj
    have := hs i j (Nat.zero_le _) hij (by omega)
    have h2 := of_decide_eq_false this
    simp only [cf] at h2
    rw [hgm i (by omega), hgm j hj']
    have h3 := cmpL_anti (E[(d'[j]!).1]?.getD dE).xs (E[(d'[i]!).1]?.getD dE).xs
    omega
  · have hi : i < d'.size := by have := (List.getElem?_eq_some_iff.1 hx).1; simpa using this
    rw [hget i hi] at hx
    injection hx with hx
    have hSW : SW enc W g 0 d' (sortWorld enc W g 0 q d' os) := ⟨q, os, rfl⟩
    have hh := (hSW.holds hgl hH hsz i hi).1
    rw [Nat.zero_add] at hh
    refine ⟨_, rfl, ?_, ?_⟩
    · rw [addr_add0, hh, ← hx]
    · rw [← hx]; exact (hIE _).gr hG
theorem sort_none (a : Option Addr) (c : Nat) (f : Value) (W : World) : Calls Try.prog 89 #[.slice a 0 c, f] W fun e w' => e = .returned (.tuple #[]) ∧ w' = W :=
  AnyF.slices_SortFunc_none (P := Try.prog) (ρ := Try.sortL_ren) { Try.sortL with } a c f W
theorem sort_all {w W : World} {E : List BegE} {a : Option Addr} {c : Nat} (g0 : Gr w W) (hO : OwnR W w.heap.size 34 1 (.slice a E.length c) E.length (rowsV E)) (hI : ∀ x ∈ E, Ints w x.a x.xs.length x.xs) (hl : E.length ≤ 1000000) :
    Calls Try.prog 89 #[.slice a E.length c, .func (.func 90) #[] #[]] W fun e w' => e = .returned (.tuple #[]) ∧ ∃ S : List BegE, S.length = E.length ∧ (S.map BegE.xs).Perm (E.map BegE.xs) ∧ (∀ x ∈ S, x ∈ E) ∧ (∀ i j, i < j → j < (S.map BegE.xs).length → cmpL ((S.map BegE.xs)[i]?.getD []) ((S.map BegE.xs)[j]?.getD []) ≤ 0) ∧ RrAt w' a S ∧ Only (fun b => (Value.slice a E.length c).ownBlock = some b) W w' := by
  by_cases h0 : 0 < E.length
  · refine (sort_any g0 hO hI h0 hl).mono ?_
    rintro e w' ⟨rfl, g, S, _, h1, h2, h3, h4, h5, h6⟩
    exact ⟨rfl, S, h1, h2, h3, h4, h5, h6⟩
  · have he : E = [] := List.eq_nil_of_length_eq_zero (by omega)
    subst he
    refine (sort_none a c _ W).mono ?_
    rintro e w' ⟨rfl, rfl⟩
    exact ⟨rfl, [], rfl, List.Perm.refl _, fun x hx => hx, fun i j _ hj => by simp at hj, fun i x hx => by simp at hx, Only.refl _ _⟩
end
section
set_option linter.unusedVariables false
open Go.RowKit
def sumE (p : Pb) (E : List LfE) (i : Nat) : Nat := sumP p.nh p.nt ((E.take i).map fun x => x.b.xs)
def okE (p : Pb) (cost : Int) (E : List LfE) (i : Nat) : Prop := ∀ (j : Nat) (x : LfE), j < i → E[j]? = some x → lfB p cost (x.b.xs, x.why) = true
def provB (p : Pb) (cost : Int) (E : List LfE) : Bool := decide (chkE p = 0) && pvsB p cost (stripL E)
section
variable {p : Pb} {cost why : Int} {E : List LfE} {i : Nat} {x : LfE} {xs : List Int}
theorem take_s {α : Type} {l : List α} {i : Nat} {x : α} (h : l[i]? = some x) : l.take (i + 1) = l.take i ++ [x] := by
  obtain ⟨hi, e⟩ := List.getElem?_eq_some_iff.1 h
  rw [List.take_succ_eq_append_getElem hi, e]
theorem sumE_s (h : E[i]? = some x) : sumE p E (i + 1) = sumE p E i + p.nh ^ (p.nt - x.b.xs.length) := by
  unfold sumE
  rw [take_s h, List.map_append, sum_app]
  simp [sumP]
theorem sumE_le (hp : PbOk p) : ∀ i, sumE p E i ≤ i * 60466176 := by
  intro i
  induction i with
  | zero => exact Nat.zero_le _
  | succ i ih =>
    cases h : E[i]? with
    | none =>
      have : E.take (i + 1) = E.take i := by
        rw [List.getElem?_eq_none_iff] at h
        rw [List.take_of_length_le (by omega), List.take_of_length_le h]
      have e : sumE p E (i + 1) = sumE p E i := by unfold sumE; rw [this]
      rw [e]; exact Nat.le_trans ih (Nat.mul_le_mul_right _ (Nat.le_succ i))
    | some x =>
      rw [sumE_s h]
      have := pow_sm hp.h6 (show p.nt - x.b.xs.length ≤ 10 by have := hp.t10; omega)
      omega
theorem okE_s (h : okE p cost E i) (hx : E[i]? = some x) (hl : lfB p cost (x.b.xs, x.why) = true) : okE p cost E (i + 1) := fun j y hj hy => by
  by_cases e : j = i
  · subst e; rw [hx] at hy; injection hy with hy; subst hy; exact hl
  · exact h j y (by omega) hy
theorem lf_1 (h : (p.nt : Int) < xs.length) : lfB p cost (xs, why) = false := by
  unfold lfB; simp only; rw [decide_eq_false (show ¬ xs.length ≤ p.nt by omega)]; rfl
theorem lf_2 (h : hosB p xs = false) : lfB p cost (xs, why) = false := by
  unfold lfB; simp only; rw [h, Bool.and_false]; rfl
theorem lf_3 (hw : why = 1) (h : hopeB p (tim p) xs = false) : lfB p cost (xs, why) = false := by
  subst hw; unfold lfB; simp [h]
theorem lf_4 (h1 : ¬ why = 1) (h2 : ¬ why = 2) : lfB p cost (xs, why) = false := by
  unfold lfB; simp [h1, h2]
theorem lf_5 (h1 : ¬ why = 1) (h2 : ¬ cost ≤ bndV p xs) : lfB p cost (xs, why) = false := by
  unfold lfB; simp [h1, h2]
theorem lf_6 (hw : why = 1) (hl : xs.length ≤ p.nt) (hh : hosB p xs = true) (h : hopeB p (tim p) xs = true) : lfB p cost (xs, why) = true := by
  subst hw; unfold lfB; simp [hl, hh, h]
theorem lf_7 (hw : why = 2) (hl : xs.length ≤ p.nt) (hh : hosB p xs = true) (h : cost ≤ bndV p xs) : lfB p cost (xs, why) = true := by
  subst hw; unfold lfB; simp [hl, hh, h]
theorem prov_0 (h : ¬ chkE p = 0) : provB p cost E = false := by unfold provB; rw [decide_eq_false h]; rfl
theorem prov_no (hx : E[i]? = some x) (h : lfB p cost (x.b.xs, x.why) = false) : provB p cost E = false := by
  unfold provB pvsB
  cases e : (stripL E).all (lfB p cost) with
  | false => rw [Bool.false_and, Bool.and_false]
  | true =>
    have := List.all_eq_true.1 e (x.b.xs, x.why) (List.mem_map.2 ⟨x, List.mem_of_getElem? hx, rfl⟩)
    rw [h] at this; cases this
theorem all_okE (h : okE p cost E E.length) : (stripL E).all (lfB p cost) = true := by
  rw [List.all_eq_true]
  intro y hy
  obtain ⟨x, hx, rfl⟩ := List.mem_map.1 hy
  obtain ⟨i, hi, e⟩ := List.getElem_of_mem hx
  exact h i x hi (by rw [List.getElem?_eq_getElem hi, e])
theorem strip_fst : (stripL E).map (·.1) = E.map fun x => x.b.xs := by simp [stripL, Function.comp_def]
theorem pow_0 {n k : Nat} (h : n ^ k = 0) : n = 0 ∧ 0 < k := by
  cases k with
  | zero => simp at h
  | succ k => exact ⟨Nat.pow_eq_zero.1 h |>.1, Nat.succ_pos k⟩
theorem pow_n0 {n k : Nat} (h : ¬ n ^ k = 0) : ¬ (n = 0 ∧ 0 < k) := fun ⟨h1, h2⟩ => h (by subst h1; exact Nat.zero_pow h2)
theorem prov_z (hc : chkE p = 0) (h : okE p cost E E.length) (h0 : p.nh ^ p.nt = 0) : provB p cost E = true := by
  unfold provB pvsB covB
  rw [decide_eq_true hc, all_okE h, if_pos (pow_0 h0)]; rfl
theorem prov_cov (hc : chkE p = 0) (h : okE p cost E E.length) (h0 : ¬ p.nh ^ p.nt = 0) : provB p cost E = (antiB (E.map fun x => x.b.xs) && decide (sumE p E E.length = p.nh ^ p.nt)) := by
  unfold provB pvsB covB sumE
  rw [decide_eq_true hc, all_okE h, if_neg (pow_n0 h0), strip_fst, List.take_length]; rfl
end
theorem int_eq {a b : Nat} : decide (a = b) = ((a : Int) == (b : Int)) := by
  by_cases h : a = b
  · subst h; simp
  · rw [decide_eq_false h]
    have : ¬ (a : Int) = b := by omega
    simp [this]
/-- the rows behind the sort -/
theorem adj_no {T : List (List Int)} {i : Nat} (hi : i + 1 < T.length) (h : (T[i]?.getD []).isPrefixOf (T[i + 1]?.getD []) = true) : adjB T = false := by
  cases e : adjB T with
  | false => rfl
  | true =>
    have := allN_iff.1 e i (by omega)
    rw [h] at this; cases this
theorem adj_yes {T : List (List Int)} (h : ∀ i, i + 1 < T.length → (T[i]?.getD []).isPrefixOf (T[i + 1]?.getD []) = false) : adjB T = true :=
  allN_iff.2 fun i hi => by rw [h i (by omega)]; rfl
theorem pfx_take {a b : List Int} (h : a.length ≤ b.length) : a.isPrefixOf b = decide (b.take a.length = a) := by
  have key : a.isPrefixOf b = true ↔ b.take a.length = a := by
    rw [List.isPrefixOf_iff_prefix, List.prefix_iff_eq_take]
    exact ⟨fun e => e.symm, fun e => e.symm⟩
  cases e : a.isPrefixOf b with
  | true => exact (decide_eq_true (key.1 e)).symm
  | false => exact (decide_eq_false fun e2 => by rw [key.2 e2] at e; cases e).symm
theorem pfx_short {a b : List Int} (h : b.length < a.length) : a.isPrefixOf b = false := pfx_no fun k => by have := k.length_le; omega
theorem Ints.takeN {W : World} {a : Option Addr} {xs : List Int} {n : Nat} (h : Ints W a xs.length xs) (hn : n ≤ xs.length) : Ints W a (xs.take n).length (xs.take n) := by
  refine ⟨rfl, by rw [List.length_take]; exact Nat.lt_of_le_of_lt (Nat.min_le_right _ _) h.lt, fun j hj => ?_⟩
  have hj2 : j < n := by rw [List.length_take] at hj; omega
  obtain ⟨ad, h1, h2, h3⟩ := h.at (j := j) (by omega)
  exact ⟨ad, h1, h2, by rw [List.getElem?_take_of_lt hj2]; exact h3⟩
end
section
set_option linter.unusedVariables false
open Go.RowKit
section
variable {p : Pb} {xs : List Int} {cost : Int} {E : List LfE}
theorem who_in (h : whoE p xs = 0) (k : allowV p xs = true) : chkE p = 0 ∧ xs ∈ allP p := by
  obtain ⟨h1, h2⟩ := who_ok h
  obtain ⟨h3, hp, _, h4⟩ := beg_ok h1
  rw [allow_1 h] at k
  exact ⟨h3, (allP_iff hp).2 ⟨h4, h2, by simpa using k⟩⟩
theorem in_who (hc : chkE p = 0) (h : xs ∈ allP p) : whoE p xs = 0 ∧ allowV p xs = true := by
  obtain ⟨h1, h2, h3⟩ := mem_allP h
  have hb : begE p xs = 0 := by
    unfold begE
    rw [if_neg (by rw [hc]; decide), if_neg]
    rintro (h | h)
    · omega
    · rw [hosB_iff.2 h1] at h; cases h
  have hw : whoE p xs = 0 := by unfold whoE; rw [if_neg (by rw [hb]; decide), if_neg (by omega)]
  exact ⟨hw, by rw [allow_1 hw, h3]; rfl⟩
theorem ch_none (h : (bestR p).2.2 = 3) (k : whoE p xs = 0) : allowV p xs = false := by
  cases e : allowV p xs with
  | false => rfl
  | true =>
    obtain ⟨h1, h2⟩ := who_in k e
    rw [best_some h1 h2] at h; cases h
theorem ch_chk (h : (bestR p).2.2 = 0) : chkE p = 0 := by
  refine Classical.byContradiction fun hc => ?_
  rw [best_1 hc] at h; exact hc h
theorem ch_best (h : (bestR p).2.2 = 0) : whoE p (bestR p).1 = 0 ∧ allowV p (bestR p).1 = true ∧ costV p (bestR p).1 = (bestR p).2.1 := by
  have hc := ch_chk h
  obtain ⟨h1, h2, h3, h4, _⟩ := best_opt hc h
  obtain ⟨k1, k2⟩ := in_who hc ((allP_iff (chk_ok hc)).2 ⟨h1, h2, h3⟩)
  exact ⟨k1, k2, by rw [cost_1 k1, h4]⟩
theorem ch_min (h : (bestR p).2.2 = 0) (k : whoE p xs = 0) (k2 : allowV p xs = true) : ¬ costV p xs < (bestR p).2.1 := by
  have hc := ch_chk h
  obtain ⟨_, _, _, h4, h5⟩ := best_opt hc h
  have := h5 xs (who_in k k2).2
  rw [cost_1 k, h4]; omega
theorem ch_own (h : (bestR p).2.2 = 0) (hE : stripL E = prvL p) : provB p (bestR p).2.1 E = true := by
  unfold provB
  rw [decide_eq_true (ch_chk h), hE, pvs_own (ch_chk h) h]; rfl
theorem ch_any (h : (bestR p).2.2 = 0) (hq : provB p cost E = true) : cost ≤ (bestR p).2.1 := by
  have hc := ch_chk h
  obtain ⟨h1, h2, h3, h4, _⟩ := best_opt hc h
  unfold provB at hq
  rw [Bool.and_eq_true] at hq
  have := pvs_sound (chk_ok hc) hq.2 ((allP_iff (chk_ok hc)).2 ⟨h1, h2, h3⟩)
  rw [h4]; exact this
end
end
section
/-- the branches of a test meet again -/
theorem Y.seqJ {P : Program} {ro : Option Nat} {x y : Code} {Q : Exit → Act → World → Prop} {A : Act} {W : World} (J : Act → World → Prop) (h : x.wpIn (FW ro) 0 P (Exit.then J Q) A W) (hJ : ∀ A W, J A W → y.wpIn (FW ro) 0 P Q A W) : (Code.seq x y).wpIn (FW ro) 0 P Q A W :=
  wpIn_seq (wpIn_mono h (fun e a w hq => by
    cases e with
    | normal => exact hJ _ _ hq
    | exit id => exact hq
    | goto l => exact hq
    | ret => exact hq
    | panic ch => exact hq
    | outgrown => exact hq))
end
section
open Go.RowKit

theorem rowsV_app (A B : List BegE) : rowsV (A ++ B) = rowsV A ++ rowsV B := by simp [rowsV]
theorem rows_gt {S : List BegE} {i : Nat} {x : BegE} (h : S[i]? = some x) : (S.map BegE.xs)[i]?.getD [] = x.xs := by rw [List.getElem?_map, h]; rfl
theorem rows_b {E : List LfE} : ((E.map LfE.b).map BegE.xs).Perm (E.map fun x => x.b.xs) := by rw [List.map_map]; exact List.Perm.refl _
theorem lf_cap {w : World} {la : Option Addr} {E : List LfE} {x : BegE} (hL : LfAt w la E) (hx : x ∈ E.map LfE.b) : x.xs.length ≤ x.c := by
  obtain ⟨y, hy, rfl⟩ := List.mem_map.1 hx
  obtain ⟨i9, hi9⟩ := List.getElem?_of_mem hy
  obtain ⟨_, _, _, _, _, h⟩ := hL i9 y hi9
  exact h
theorem sortE {w W W1 : World} {E : List LfE} {la oa : Option Addr} {oc : Nat} (G : Gr w W) (hRo : OwnR W W1.heap.size 34 1 (.slice oa E.length oc) E.length (rowsV (E.map LfE.b))) (hW1 : w.heap.size ≤ W1.heap.size) (hL : LfAt w la E) (hl : E.length ≤ 1000000) :
    Calls Try.prog 89 #[.slice oa E.length oc, .func (.func 90) #[] #[]] W fun e w' => e = .returned (.tuple #[]) ∧ ∃ S : List BegE, S.length = (E.map LfE.b).length ∧ (S.map BegE.xs).Perm ((E.map LfE.b).map BegE.xs) ∧ (∀ x ∈ S, x ∈ E.map LfE.b) ∧ (∀ i j, i < j → j < (S.map BegE.xs).length → cmpL ((S.map BegE.xs)[i]?.getD []) ((S.map BegE.xs)[j]?.getD []) ≤ 0) ∧ RrAt w' oa S ∧ Only (fun b => (Value.slice oa (E.map LfE.b).length oc).ownBlock = some b) W w' := by
  have hlm : (E.map LfE.b).length = E.length := List.length_map _
  have hq := sort_all (w := w) (W := W) (E := E.map LfE.b) (a := oa) (c := oc) G (by rw [hlm]; exact hRo.lower hW1) (fun x hx => by
    obtain ⟨y, hy, rfl⟩ := List.mem_map.1 hx
    obtain ⟨i9, hi9⟩ := List.getElem?_of_mem hy
    obtain ⟨_, _, _, _, h, _⟩ := hL i9 y hi9
    exact h) (by rw [hlm]; exact hl)
  rw [hlm] at hq ⊢
  exact hq
set_option maxRecDepth 100000 in
set_option maxHeartbeats 4000000 in
theorem provs_any (p : Pb) (ta ha ba la : Option Addr) (tc hc bc lc : Nat) (la9 : Option Addr) (lc9 : Nat) (E : List LfE) (cost : Int) (w : World) (hP : PbAt w p ta ha ba la tc hc bc lc) (hL : LfAt w la9 E) (hE : E.length ≤ 5000) :
  Calls Try.prog 48 #[.agg #[.slice ta p.nt tc, .slice ha p.nh hc, .slice ba p.nb bc, .slice la p.nl lc], .slice la9 E.length lc9, Vi cost] w fun e w' => e = .returned (.tuple #[.bool (provB p cost E), Vi (chkE p)]) ∧ Gr w w' := by
 have G := Gr.refl w
 have hpt := hP.t
 have hph := hP.h
 have hpb := hP.b
 have hpl := hP.l
 have hplen := hP.len
 obtain ⟨hn1, hn2, hn3, hn4⟩ := hplen
 have hcp1 := hpt.cap
 have hcp2 := hph.cap
 have hcp3 := hpb.cap
 have hcp4 := hpl.cap
 have hl := hL
 refine Y.calls 140 Try.func48 rfl rfl ?_
 intro ac F0
 have F : Fr ac 140 [(0, .agg #[.slice ta p.nt tc, .slice ha p.nh hc, .slice ba p.nb bc, .slice la p.nl lc]), (1, .slice la9 E.length lc9), (2, Vi cost)] := F0.sub _
 clear F0
 refine Y.sl ?_
 have hgs3 : w.heap.size ≤ w.heap.size := G.size
 refine Y.pv F (X.box rfl (F.ev 0 (.agg #[.slice ta p.nt tc, .slice ha p.nh hc, .slice ba p.nb bc, .slice la p.nl lc])) X.bx) ?_;clear F ac;intro ac F
 have hgs5 : w.heap.size ≤ w.heap.size := G.size
 obtain ⟨w6, hw_, g, hb, hbl, hC2⟩ := Y.bxd (RCells.nil w) #[.slice ta p.nt tc, .slice ha p.nh hc, .slice ba p.nb bc, .slice la p.nl lc] 27;rw [hw_];clear hw_
 replace G := G.trans g
 have hC := hC2
 clear hC2
 replace hpt := hpt.gr g
 replace hph := hph.gr g
 replace hpb := hpb.gr g
 replace hpl := hpl.gr g
 replace hl := hl.gr g
 have hsz4 := hbl
 clear g hb hbl
 refine Y.pv2 F (X.assign rfl (X.kc (.bool false) rfl)) (fun _ F=>X.assign rfl (X.kc (Vi 0) rfl)) ?_;clear F ac;intro ac F
 refine Y.nt F [(1, .slice la9 E.length lc9), (2, Vi cost), (3, Vp w.heap.size)] ?_;clear F ac;intro ac F
 refine Y.seq ?_
 refine Y.sl ?_
 refine Y.pv F (X.load rfl (F.ev 3 (Vp w.heap.size)) (X.ldN (Try.agg27 _) (Try.siz27 _) (Y.atz (⟨w.heap.size, 0, none⟩) (Y.AtFrom.cons (hC.at 0 rfl) (Y.AtFrom.cons (hC.at 1 rfl) (Y.AtFrom.cons (hC.at 2 rfl) (Y.AtFrom.cons (hC.at 3 rfl) (Y.AtFrom.nil _ _ _)))))))) fun ac F=>Y.pc F 18 (X.a1 (F.ev 17 (.agg #[.slice ta p.nt tc, .slice ha p.nh hc, .slice ba p.nb bc, .slice la p.nl lc]))) Try.func18 (check_any p ta ha ba la tc hc bc lc w6 (hP.gr G)) ?_
 clear F ac
 rintro e w7 ⟨rfl, g⟩
 refine ⟨_, rfl, ?_⟩
 intro ac F
 replace G := G.trans g
 replace hC := hC.gr g
 replace hpt := hpt.gr g
 replace hph := hph.gr g
 replace hpb := hpb.gr g
 replace hpl := hpl.gr g
 replace hl := hl.gr g
 clear g
 refine Y.pv F (X.assign rfl (F.ev 18 (Vi (chkE p)))) ?_;clear F ac;intro ac F
 refine Y.nt F [(1, .slice la9 E.length lc9), (2, Vi cost), (3, Vp w.heap.size), (8, Vi (chkE p))] ?_;clear F ac;intro ac F
 refine Y.sg F [(1, .slice la9 E.length lc9), (2, Vi cost), (3, Vp w.heap.size), (8, Vi (chkE p)), (20, .bool ((chkE p : Int) != 0))] (Y.pv F (X.move rfl (F.ev 8 (Vi (chkE p)))) fun ac F=>Y.pv F (X.binop rfl (F.ev 19 (Vi (chkE p))) (X.kc (Vi 0) rfl) (X.neqI Try.underlying31 rfl)) fun ac F=>Y.fin F) ?_;clear F ac;intro ac F
 cases h8 : ((chkE p : Int) != 0) with
 | false =>
  try rw [h8] at F
  have h8p : (chkE p : Int) = 0 := by simpa using h8
  have hck : chkE p = 0 := by omega
  have hp := chk_ok hck
  have hh6 := hp.h6
  have hnt10 := hp.t10
  refine Y.cF F 20 ?_
  refine Y.skip ?_
  refine X.thenN ?_
  refine Y.seq ?_
  refine Y.sg F [(1, .slice la9 E.length lc9), (2, Vi cost), (3, Vp w.heap.size), (24, .bool (decide ((5000 : Int) < E.length)))] (Y.pv F (X.move rfl (F.ev 1 (.slice la9 E.length lc9))) fun ac F=>Y.pv F (X.len1 Try.underlying45 rfl (F.ev 22 (.slice la9 E.length lc9))) fun ac F=>Y.pv F (X.binop rfl (F.ev 23 (Vi E.length)) (X.kc (Vi 5000) rfl) (X.gtrI Try.underlying3 rfl)) fun ac F=>Y.fin F) ?_;clear F ac;intro ac F
  cases h9 : decide ((5000 : Int) < E.length) with
  | false =>
   try rw [h9] at F
   have h9p : ¬ ((5000 : Int) < E.length) := of_decide_eq_false h9
   refine Y.cF F 24 ?_
   refine Y.skip ?_
   refine X.thenN ?_
   refine Y.sg F [(1, .slice la9 E.length lc9), (2, Vi cost), (3, Vp w.heap.size), (9, .func (.func 87) #[] #[Vp w.heap.size])] (Y.pv F (Y.fnc rfl (Y.m1 (F.ev 3 (Vp w.heap.size)))) fun ac F=>Y.pv F (X.assign rfl (F.ev 25 (.func (.func 87) #[] #[Vp w.heap.size]))) fun ac F=>Y.fin F) ?_;clear F ac;intro ac F
   refine Y.sg F [(1, .slice la9 E.length lc9), (2, Vi cost), (3, Vp w.heap.size), (9, .func (.func 87) #[] #[Vp w.heap.size]), (10, .slice none 0 0)] (Y.pv F (X.assign rfl (X.kc (.slice none 0 0) rfl)) fun ac F=>Y.fin F) ?_;clear F ac;intro ac F
   refine Y.sg F [(1, .slice la9 E.length lc9), (2, Vi cost), (3, Vp w.heap.size), (9, .func (.func 87) #[] #[Vp w.heap.size]), (10, .slice none 0 0), (11, Vi 0)] (Y.pv F (X.assign rfl (X.kc (Vi 0) rfl)) fun ac F=>Y.fin F) ?_;clear F ac;intro ac F
   refine Y.seq ?_
   refine Y.sg F [(2, Vi cost), (3, Vp w.heap.size), (9, .func (.func 87) #[] #[Vp w.heap.size]), (10, .slice none 0 0), (11, Vi 0), (26, .slice la9 E.length lc9), (27, Vi E.length), (28, Vi 0)] (Y.pv F (X.move rfl (F.ev 1 (.slice la9 E.length lc9))) fun ac F=>Y.pv F (X.len1 Try.underlying45 rfl (F.ev 26 (.slice la9 E.length lc9))) fun ac F=>Y.pv F (X.move rfl (X.kc (Vi 0) rfl)) fun ac F=>Y.fin F) ?_;clear F ac;intro ac F
   refine Y.block ?_
   have hW1 : w.heap.size ≤ w7.heap.size := G.size
   have hb3 : w.heap.size < w7.heap.size := lt_cell (hC.at 0 rfl)
   refine Y.loop (fun me_ ac wr => ∃ (i : Nat) (oa : Option Addr) (oc : Nat), me_ = E.length - i ∧ Only (fun b => False) w7 wr ∧ i ≤ E.length ∧ OwnR wr w7.heap.size 34 1 (.slice oa i oc) i (rowsV ((E.take i).map LfE.b)) ∧ okE p cost E i ∧ Fr ac 140 [(2, Vi cost), (3, Vp w.heap.size), (9, .func (.func 87) #[] #[Vp w.heap.size]), (10, .slice oa i oc), (11, Vi ((sumE p E i : Nat) : Int)), (26, .slice la9 E.length lc9), (27, Vi E.length), (28, Vi i)]) _ ⟨0, none, 0, rfl, Only.refl _ _, Nat.zero_le _, OwnR.nil _ _ _ _, fun j x h => by omega, F.sub _⟩ ?_
   have hptB1 := hpt
   have hphB1 := hph
   have hpbB1 := hpb
   have hplB1 := hpl
   have hlB1 := hl
   have GB1 := G
   have hCB1 := hC
   clear F ac
   intro me_ ac w10 hI
   obtain ⟨i, oa, oc, rfl, hO1, hi, hRo, hok, F⟩ := hI
   replace G := GB1.trans (hO1.gr (fun _ _ h => h))
   replace hpt := (hP.t).gr G
   replace hph := (hP.h).gr G
   replace hpb := (hP.b).gr G
   replace hpl := (hP.l).gr G
   replace hl := (hL).gr G
   replace hC := (RCells.cons (hO1.cell (hCB1.at 0 rfl) (fun h => h)) (RCells.cons (hO1.cell (hCB1.at 1 rfl) (fun h => h)) (RCells.cons (hO1.cell (hCB1.at 2 rfl) (fun h => h)) (RCells.cons (hO1.cell (hCB1.at 3 rfl) (fun h => h)) (RCells.nil _)))))
   have GH := Gr.refl w10
   have hgL0 : ∀ b, (Value.slice oa i oc).ownBlock = some b → b < w10.heap.size := fun b e => (hRo.ge e).2
   have hsl := sumE_le (E := E) hp i
   refine Y.sg F [(2, Vi cost), (3, Vp w.heap.size), (9, .func (.func 87) #[] #[Vp w.heap.size]), (10, .slice oa i oc), (11, Vi ((sumE p E i : Nat) : Int)), (26, .slice la9 E.length lc9), (27, Vi E.length), (28, Vi i), (29, .bool (decide ((i : Int) < E.length)))] (Y.pv F (X.binop rfl (F.ev 28 (Vi i)) (F.ev 27 (Vi E.length)) (X.lssI Try.underlying3 rfl)) fun ac F=>Y.fin F) ?_;clear F ac;intro ac F
   refine Y.seq ?_
   cases h11 : decide ((i : Int) < E.length) with
   | false =>
    try rw [h11] at F
    have h11p : ¬ ((i : Int) < E.length) := of_decide_eq_false h11
    obtain rfl : i = E.length := by omega
    rw [List.take_length] at hRo
    clear GH
    refine Y.cF F 29 ?_
    refine Y.exit ?_
    refine X.thenX (X.thenX (X.blockX (X.thenN ?_)))
    refine Y.seq ?_
    refine Y.sl ?_
    refine Y.pv4 F (X.move rfl (F.ev 9 (.func (.func 87) #[] #[Vp w.heap.size]))) (fun _ F=>X.field rfl (F.ev 3 (Vp w.heap.size)) (X.fld Try.underlying27 rfl (Try.siz22 _) rfl rfl)) (fun _ F=>X.load rfl (F.ev 93 (Vp w.heap.size)) (X.ld1 (Try.agg22 _) (hC.at 0 rfl))) (fun _ F=>X.len1 Try.underlying22 rfl (F.ev 94 (.slice ta p.nt tc))) ?_;clear F ac;intro ac F
    refine Y.pcall F (X.w0 rfl) rfl (X.enter (F := 87) rfl (F.ev 92 (.func (.func 87) #[] #[Vp w.heap.size])) (X.a1 (F.ev 95 (Vi p.nt))) (enters_of Try.func87 (by kernel_rfl) rfl _)) (plansC_any p ta ha ba la tc hc bc lc w.heap.size p.nt w10 (hP.gr G) ((RCells.cons (hC.at 0 rfl) (RCells.cons (hC.at 1 rfl) (RCells.cons (hC.at 2 rfl) (RCells.cons (hC.at 3 rfl) (RCells.nil _)))))) hp.h6 hp.t10) ?_
    clear F ac
    rintro e w12 ⟨rfl, g⟩
    refine ⟨_, rfl, ?_⟩
    intro ac F
    replace G := G.trans g
    replace hC := hC.gr g
    replace hpt := hpt.gr g
    replace hph := hph.gr g
    replace hpb := hpb.gr g
    replace hpl := hpl.gr g
    replace hl := hl.gr g
    replace hRo := hRo.gr g
    clear g
    refine Y.pv F (X.binop rfl (F.ev 96 (Vi ((p.nh ^ p.nt : Nat) : Int))) (X.kc (Vi 0) rfl) (X.eqlI Try.underlying3 rfl)) ?_;clear F ac;intro ac F
    refine Y.nt F [(3, Vp w.heap.size), (9, .func (.func 87) #[] #[Vp w.heap.size]), (10, .slice oa E.length oc), (11, Vi ((sumE p E E.length : Nat) : Int)), (97, .bool ((((p.nh ^ p.nt : Nat) : Int) : Int) == 0))] ?_;clear F ac;intro ac F
    cases h13 : ((((p.nh ^ p.nt : Nat) : Int) : Int) == 0) with
    | false =>
     try rw [h13] at F
     have h13p : ¬ (((p.nh ^ p.nt : Nat) : Int) : Int) = 0 := by simpa using h13
     have hz0 : ¬ p.nh ^ p.nt = 0 := by omega
     have hpc := prov_cov hck hok hz0
     refine Y.cF F 97 ?_
     refine Y.skip ?_
     refine X.thenN ?_
     refine Y.sl ?_
     refine Y.pv F (X.move rfl (F.ev 10 (.slice oa E.length oc))) fun ac F=>Y.pc F 89 (X.a2 (F.ev 98 (.slice oa E.length oc)) (X.kc (.func (.func 90) #[] #[]) rfl)) Try.func89 (sortE G hRo hW1 hL (by omega)) ?_
     clear F ac
     rintro e w14 ⟨rfl, S, hSl, hSp, hSm, hSs, hRr, hon⟩
     refine ⟨_, rfl, ?_⟩
     intro ac F
     rw [List.length_map] at hSl
     replace G : Gr w w14 := OnlyG G hon (fun b e => Nat.le_trans hW1 (by rw [List.length_map] at e; exact (hRo.ge e).1))
     replace hpt := (hP.t).gr G
     replace hph := (hP.h).gr G
     replace hpb := (hP.b).gr G
     replace hpl := (hP.l).gr G
     replace hl := (hL).gr G
     replace hC := (RCells.cons (hon.cell (hC.at 0 rfl) (fun e => by rw [List.length_map] at e; have h9 := (hRo.ge e).1; simp only at h9; omega)) (RCells.cons (hon.cell (hC.at 1 rfl) (fun e => by rw [List.length_map] at e; have h9 := (hRo.ge e).1; simp only at h9; omega)) (RCells.cons (hon.cell (hC.at 2 rfl) (fun e => by rw [List.length_map] at e; have h9 := (hRo.ge e).1; simp only at h9; omega)) (RCells.cons (hon.cell (hC.at 3 rfl) (fun e => by rw [List.length_map] at e; have h9 := (hRo.ge e).1; simp only at h9; omega)) (RCells.nil _)))))
     clear hon hRo
     refine Y.nt F [(3, Vp w.heap.size), (9, .func (.func 87) #[] #[Vp w.heap.size]), (10, .slice oa E.length oc), (11, Vi ((sumE p E E.length : Nat) : Int))] ?_;clear F ac;intro ac F
     refine Y.seq ?_
     refine Y.sg F [(3, Vp w.heap.size), (9, .func (.func 87) #[] #[Vp w.heap.size]), (10, .slice oa E.length oc), (11, Vi ((sumE p E E.length : Nat) : Int)), (15, Vi 1)] (Y.pv F (X.assign rfl (X.kc (Vi 1) rfl)) fun ac F=>Y.fin F) ?_;clear F ac;intro ac F
     refine Y.block ?_
     refine Y.loop (fun me_ ac wr => ∃ (j : Nat), me_ = E.length - j ∧ Only (fun b => False) w14 wr ∧ j ≤ E.length ∧ (∀ i, i < j → i + 1 < E.length → ((S.map BegE.xs)[i]?.getD []).isPrefixOf ((S.map BegE.xs)[i + 1]?.getD []) = false) ∧ Fr ac 140 [(3, Vp w.heap.size), (9, .func (.func 87) #[] #[Vp w.heap.size]), (10, .slice oa E.length oc), (11, Vi ((sumE p E E.length : Nat) : Int)), (15, Vi ((j : Int) + 1))]) _ ⟨0, rfl, Only.refl _ _, Nat.zero_le _, fun i h => by omega, (by exact F.sub _)⟩ ?_
     have hptB1 := hpt
     have hphB1 := hph
     have hpbB1 := hpb
     have hplB1 := hpl
     have hlB1 := hl
     have hRrB1 := hRr
     have GB1 := G
     have hCB1 := hC
     clear F ac
     intro me_ ac w15 hI
     obtain ⟨j, rfl, hO1, hj, hadj, F⟩ := hI
     replace G := GB1.trans (hO1.gr (fun _ _ h => h))
     replace hpt := (hP.t).gr G
     replace hph := (hP.h).gr G
     replace hpb := (hP.b).gr G
     replace hpl := (hP.l).gr G
     replace hl := (hL).gr G
     replace hRr := hRrB1.gr (hO1.gr (fun _ _ h => h))
     replace hC := (RCells.cons (hO1.cell (hCB1.at 0 rfl) (fun h => h)) (RCells.cons (hO1.cell (hCB1.at 1 rfl) (fun h => h)) (RCells.cons (hO1.cell (hCB1.at 2 rfl) (fun h => h)) (RCells.cons (hO1.cell (hCB1.at 3 rfl) (fun h => h)) (RCells.nil _)))))
     refine Y.seq ?_
     refine Y.sg F [(3, Vp w.heap.size), (9, .func (.func 87) #[] #[Vp w.heap.size]), (10, .slice oa E.length oc), (11, Vi ((sumE p E E.length : Nat) : Int)), (15, Vi ((j : Int) + 1)), (103, .bool (decide (((j : Int) + 1 : Int) < E.length)))] (Y.pv F (X.move rfl (F.ev 15 (Vi ((j : Int) + 1)))) fun ac F=>Y.pv F (X.move rfl (F.ev 10 (.slice oa E.length oc))) fun ac F=>Y.pv F (X.len1 Try.underlying38 rfl (F.ev 101 (.slice oa E.length oc))) fun ac F=>Y.pv F (X.binop rfl (F.ev 100 (Vi ((j : Int) + 1))) (F.ev 102 (Vi E.length)) (X.lssI Try.underlying3 rfl)) fun ac F=>Y.fin F) ?_;clear F ac;intro ac F
     cases h16 : decide (((j : Int) + 1 : Int) < E.length) with
     | false =>
      try rw [h16] at F
      have h16p : ¬ (((j : Int) + 1 : Int) < E.length) := of_decide_eq_false h16
      refine Y.cF F 103 ?_
      refine Y.exit ?_
      refine X.thenX (X.thenX (X.blockX (X.thenN ?_)))
      refine Y.sl ?_
      refine Y.pv4 F (X.move rfl (F.ev 11 (Vi ((sumE p E E.length : Nat) : Int)))) (fun _ F=>X.move rfl (F.ev 9 (.func (.func 87) #[] #[Vp w.heap.size]))) (fun _ F=>X.field rfl (F.ev 3 (Vp w.heap.size)) (X.fld Try.underlying27 rfl (Try.siz22 _) rfl rfl)) (fun _ F=>X.load rfl (F.ev 135 (Vp w.heap.size)) (X.ld1 (Try.agg22 _) (hC.at 0 rfl))) fun ac F=>Y.pv F (X.len1 Try.underlying22 rfl (F.ev 136 (.slice ta p.nt tc))) ?_;clear F ac;intro ac F
      refine Y.pcall F (X.w0 rfl) rfl (X.enter (F := 87) rfl (F.ev 134 (.func (.func 87) #[] #[Vp w.heap.size])) (X.a1 (F.ev 137 (Vi p.nt))) (enters_of Try.func87 (by kernel_rfl) rfl _)) (plansC_any p ta ha ba la tc hc bc lc w.heap.size p.nt w15 (hP.gr G) ((RCells.cons (hC.at 0 rfl) (RCells.cons (hC.at 1 rfl) (RCells.cons (hC.at 2 rfl) (RCells.cons (hC.at 3 rfl) (RCells.nil _)))))) hp.h6 hp.t10) ?_
      clear F ac
      rintro e w17 ⟨rfl, g⟩
      refine ⟨_, rfl, ?_⟩
      intro ac F
      replace G := G.trans g
      replace hC := hC.gr g
      replace hpt := hpt.gr g
      replace hph := hph.gr g
      replace hpb := hpb.gr g
      replace hpl := hpl.gr g
      replace hl := hl.gr g
      replace hRr := hRr.gr g
      clear g
      refine Y.pv3 F (X.binop rfl (F.ev 133 (Vi ((sumE p E E.length : Nat) : Int))) (F.ev 138 (Vi ((p.nh ^ p.nt : Nat) : Int))) (X.eqlI Try.underlying3 rfl)) (fun _ F=>X.assign rfl (F.ev 139 (.bool ((((sumE p E E.length : Nat) : Int) : Int) == ((p.nh ^ p.nt : Nat) : Int))))) (fun _ F=>X.assign rfl (X.kc (Vi 0) rfl)) ?_;clear F ac;intro ac F
      refine Y.nt F [(6, .bool ((((sumE p E E.length : Nat) : Int) : Int) == ((p.nh ^ p.nt : Nat) : Int))), (7, Vi 0)] ?_;clear F ac;intro ac F
      refine Y.ret ?_
      exact Y.ret0 (v := .tuple #[.bool ((((sumE p E E.length : Nat) : Int) : Int) == ((p.nh ^ p.nt : Nat) : Int)), Vi 0]) F (Y.rs2 F rfl (by kernel_rfl) (by kernel_rfl)) ⟨by rw [hpc, ← adj_anti (hSp.trans rows_b) hSs, adj_yes (fun i hi => hadj i (by rw [List.length_map] at hi; omega) (by rw [List.length_map] at hi; omega)), hck, Bool.true_and, int_eq], G⟩
     | true =>
      try rw [h16] at F
      have h16p : (((j : Int) + 1 : Int) < E.length) := of_decide_eq_true h16
      refine Y.cT F 103 ?_
      refine Y.skip ?_
      refine X.thenN ?_
      refine Y.seq ?_
      refine Y.block ?_
      refine Y.sl ?_
      refine Y.pv3 F (X.move rfl (F.ev 10 (.slice oa E.length oc))) (fun _ F=>X.move rfl (F.ev 15 (Vi ((j : Int) + 1)))) (fun _ F=>X.binop rfl (F.ev 107 (Vi ((j : Int) + 1))) (X.kc (Vi 1) rfl) (X.subI Try.underlying3 rfl (by omega) (by omega))) ?_;clear F ac;intro ac F
      obtain ⟨xa, hxxa⟩ : ∃ x, S[j]? = some x := ⟨_, List.getElem?_eq_getElem (by omega)⟩
      obtain ⟨pd18, pe18, pc18, pI18⟩ := hRr j xa hxxa
      have hcxa := lf_cap hL (hSm xa (List.mem_of_getElem? hxxa))
      subst pe18
      replace hC := hC.append (show RCells w15 ([(pd18.add j, .slice xa.a xa.xs.length xa.c)]) from (RCells.cons pc18 (RCells.nil _)))
      clear pc18
      refine Y.pval F (X.w0 rfl) rfl (X.index rfl (F.ev 106 (.slice (some pd18) E.length oc)) (F.ev 108 (Vi (((j : Int) + 1 : Int) - 1))) (X.idx (k := j) Try.underlying38 (Try.siz34 _) (by omega) (by omega) (by rw [Nat.mul_one]))) fun ac F=>Y.pv3 F (X.load rfl (F.ev 109 (.pointer (some (pd18.add j)))) (X.ld1 (Try.agg34 _) (hC.at 4 rfl))) (fun _ F=>X.len1 Try.underlying34 rfl (F.ev 110 (.slice xa.a xa.xs.length xa.c))) (fun _ F=>X.assign rfl (F.ev 111 (Vi xa.xs.length))) ?_;clear F ac;intro ac F
      refine Y.nt F [(3, Vp w.heap.size), (9, .func (.func 87) #[] #[Vp w.heap.size]), (10, .slice (some pd18) E.length oc), (11, Vi ((sumE p E E.length : Nat) : Int)), (15, Vi ((j : Int) + 1)), (16, Vi xa.xs.length)] ?_;clear F ac;intro ac F
      refine Y.seq ?_
      obtain ⟨xb, hxxb⟩ : ∃ x, S[j + 1]? = some x := ⟨_, List.getElem?_eq_getElem (by omega)⟩
      obtain ⟨pd19, pe19, pc19, pI19⟩ := hRr (j + 1) xb hxxb
      have hcxb := lf_cap hL (hSm xb (List.mem_of_getElem? hxxb))
      injection pe19 with pe19
      subst pe19
      replace hC := hC.append (show RCells w15 ([(pd18.add (j + 1), .slice xb.a xb.xs.length xb.c)]) from (RCells.cons pc19 (RCells.nil _)))
      clear pc19
      cases h20 : decide ((xa.xs.length : Int) ≤ xb.xs.length) with
      | false =>
       try rw [h20] at F
       have h20p : ¬ ((xa.xs.length : Int) ≤ xb.xs.length) := of_decide_eq_false h20
       have hpx : ((S.map BegE.xs)[j]?.getD []).isPrefixOf ((S.map BegE.xs)[j + 1]?.getD []) = false := by rw [rows_gt hxxa, rows_gt hxxb]; exact pfx_short (by omega)
       refine Y.region F [some (.slice (some pd18) E.length oc), some (Vi ((j : Int) + 1)), some (.pointer (some (pd18.add (j + 1)))), some (.slice xb.a xb.xs.length xb.c), some (Vi xb.xs.length), some (Vi xa.xs.length), some (.bool false), some (.bool false), none, none, none, none, none, none, none, none, none, none, none, none, some (.bool false)] [] rfl ⟨by kernel_rfl, of_decide_eq_true (by kernel_rfl), by kernel_rfl, by kernel_rfl, by kernel_rfl⟩ ⟨?_, ?_, ?_, ?_, ?_, ?_, ?_, ?_, ?_, ?_, ?_, ?_, ?_, ?_, ?_, ?_, ?_, ?_, ?_, ?_, ?_, trivial⟩ ?_
       ·intro ac done u W Sx hR
        exact X.vl (X.move rfl (Sx.ev 10 (.slice (some pd18) E.length oc))) hR.st0
       ·intro ac done u W Sx hR
        exact X.vl (X.move rfl (Sx.ev 15 (Vi ((j : Int) + 1)))) hR.st0
       ·intro ac done u W Sx hR
        exact X.val (X.w0 rfl) rfl (X.index rfl (Sx.ev 112 (.slice (some pd18) E.length oc)) (Sx.ev 113 (Vi ((j : Int) + 1))) (X.idx (k := j + 1) Try.underlying38 (Try.siz34 _) (by omega) (by omega) (by rw [Nat.mul_one]))) hR.st0
       ·intro ac done u W Sx hR
        have g : Gr w15 W := hR.1
        exact X.vl (X.load rfl (Sx.ev 114 (.pointer (some (pd18.add (j + 1))))) (X.ld1 (Try.agg34 _) ((hC.gr g).at 5 rfl))) hR.st0
       ·intro ac done u W Sx hR
        exact X.vl (X.len1 Try.underlying34 rfl (Sx.ev 115 (.slice xb.a xb.xs.length xb.c))) hR.st0
       ·intro ac done u W Sx hR
        exact X.vl (X.move rfl (Sx.ev 16 (Vi xa.xs.length))) hR.st0
       ·intro ac done u W Sx hR
        exact X.vl (X.binop rfl (Sx.ev 116 (Vi xb.xs.length)) (Sx.ev 117 (Vi xa.xs.length)) (X.geqI Try.underlying3 h20)) hR.st0
       ·intro ac done u W Sx hR
        exact X.vl (X.move rfl (Sx.ev 118 (.bool false))) hR.st0
       ·intro ac done u W Sx hR
        exact X.skip (X.w2 rfl (Sx.yl 7 119 false (by kernel_rfl) rfl rfl) rfl) rfl (hR.skip rfl)
       ·intro ac done u W Sx hR
        exact X.skip (X.w2 rfl (Sx.yl 7 119 false (by kernel_rfl) rfl rfl) rfl) rfl (hR.skip rfl)
       ·intro ac done u W Sx hR
        exact X.skip (X.w2 rfl (Sx.yl 7 119 false (by kernel_rfl) rfl rfl) rfl) rfl (hR.skip rfl)
       ·intro ac done u W Sx hR
        exact X.skip (X.w2 rfl (Sx.yl 7 119 false (by kernel_rfl) rfl rfl) rfl) rfl (hR.skip rfl)
       ·intro ac done u W Sx hR
        exact X.skip (X.w2 rfl (Sx.yl 7 119 false (by kernel_rfl) rfl rfl) rfl) rfl (hR.skip rfl)
       ·intro ac done u W Sx hR
        exact X.skip (X.w2 rfl (Sx.yl 7 119 false (by kernel_rfl) rfl rfl) rfl) rfl (hR.skip rfl)
       ·intro ac done u W Sx hR
        exact X.skip (X.w2 rfl (Sx.yl 7 119 false (by kernel_rfl) rfl rfl) rfl) rfl (hR.skip rfl)
       ·intro ac done u W Sx hR
        exact X.skip (X.w2 rfl (Sx.yl 7 119 false (by kernel_rfl) rfl rfl) rfl) rfl (hR.skip rfl)
       ·intro ac done u W Sx hR
        exact X.skip (X.w2 rfl (Sx.yl 7 119 false (by kernel_rfl) rfl rfl) rfl) rfl (hR.skip rfl)
       ·intro ac done u W Sx hR
        exact X.skip (X.w2 rfl (Sx.yl 7 119 false (by kernel_rfl) rfl rfl) rfl) rfl (hR.skip rfl)
       ·intro ac done u W Sx hR
        exact X.skip (X.w2 rfl (Sx.yl 7 119 false (by kernel_rfl) rfl rfl) rfl) rfl (hR.skip rfl)
       ·intro ac done u W Sx hR
        exact X.skip (X.w2 rfl (Sx.yl 7 119 false (by kernel_rfl) rfl rfl) rfl) rfl (hR.skip rfl)
       ·intro ac done u W Sx hR
        exact X.vl (X.pickF rfl (Sx.ev 119 (.bool false)) (X.kc (.bool false) rfl)) hR.st0
       intro ac u w21 hs hd hl ho hR
       have g : Gr w15 w21 := hR.1
       replace F : Fr ac 140 [(3, Vp w.heap.size), (9, .func (.func 87) #[] #[Vp w.heap.size]), (10, .slice (some pd18) E.length oc), (11, Vi ((sumE p E E.length : Nat) : Int)), (15, Vi ((j : Int) + 1)), (132, .bool false)] := X.fr hs hd hl _ (by kernel_rfl)
       clear hs hd hl ho hR
       replace G := G.trans g
       replace hC := hC.gr g
       replace hO1 := hO1.thenGr g
       replace hpt := hpt.gr g
       replace hph := hph.gr g
       replace hpb := hpb.gr g
       replace hpl := hpl.gr g
       replace hl := hl.gr g
       replace hRr := hRr.gr g
       replace pI18 := pI18.gr g
       replace pI19 := pI19.gr g
       clear g
       refine X.thenN ?_
       refine Y.cF F 132 ?_
       refine Y.skip ?_
       refine X.blockN (X.thenN ?_)
       refine Y.lg F [(3, Vp w.heap.size), (9, .func (.func 87) #[] #[Vp w.heap.size]), (10, .slice (some pd18) E.length oc), (11, Vi ((sumE p E E.length : Nat) : Int)), (15, Vi (((j : Int) + 1 : Int) + 1))] (by
        refine Y.pv F (X.move rfl (F.ev 15 (Vi ((j : Int) + 1)))) fun ac F=>?_
        refine Y.pv F (X.binop rfl (F.ev 104 (Vi ((j : Int) + 1))) (X.kc (Vi 1) rfl) (X.addI Try.underlying3 rfl (by omega) (by omega))) fun ac F=>?_
        refine Y.pv F (X.assign rfl (F.ev 105 (Vi (((j : Int) + 1 : Int) + 1)))) fun ac F=>?_
        exact Y.fin F) ?_;clear F ac;intro ac F
       refine ⟨_, ?_, j + 1, rfl, hO1, by omega, fun i h1 h2 => if e : i = j then by subst e; exact hpx else hadj i (by omega) h2, (by rw [show ((j + 1 : Nat) : Int) + 1 = (j : Int) + 1 + 1 by omega]; exact F.sub _)⟩
       omega
      | true =>
       try rw [h20] at F
       have h20p : ((xa.xs.length : Int) ≤ xb.xs.length) := of_decide_eq_true h20
       refine Y.region F [some (.slice (some pd18) E.length oc), some (Vi ((j : Int) + 1)), some (.pointer (some (pd18.add (j + 1)))), some (.slice xb.a xb.xs.length xb.c), some (Vi xb.xs.length), some (Vi xa.xs.length), some (.bool true), some (.bool true), some (.slice (some pd18) E.length oc), some (Vi ((j : Int) + 1)), some (.pointer (some (pd18.add (j + 1)))), some (.slice xb.a xb.xs.length xb.c), some (Vi xa.xs.length), some (.slice xb.a xa.xs.length xb.c), some (.slice (some pd18) E.length oc), some (Vi ((j : Int) + 1)), some (Vi (((j : Int) + 1 : Int) - 1)), some (.pointer (some (pd18.add j))), some (.slice xa.a xa.xs.length xa.c), some (.bool (xa.xs.isPrefixOf xb.xs)), some (.bool (xa.xs.isPrefixOf xb.xs))] [] rfl ⟨by kernel_rfl, of_decide_eq_true (by kernel_rfl), by kernel_rfl, by kernel_rfl, by kernel_rfl⟩ ⟨?_, ?_, ?_, ?_, ?_, ?_, ?_, ?_, ?_, ?_, ?_, ?_, ?_, ?_, ?_, ?_, ?_, ?_, ?_, ?_, ?_, trivial⟩ ?_
       ·intro ac done u W Sx hR
        exact X.vl (X.move rfl (Sx.ev 10 (.slice (some pd18) E.length oc))) hR.st0
       ·intro ac done u W Sx hR
        exact X.vl (X.move rfl (Sx.ev 15 (Vi ((j : Int) + 1)))) hR.st0
       ·intro ac done u W Sx hR
        exact X.val (X.w0 rfl) rfl (X.index rfl (Sx.ev 112 (.slice (some pd18) E.length oc)) (Sx.ev 113 (Vi ((j : Int) + 1))) (X.idx (k := j + 1) Try.underlying38 (Try.siz34 _) (by omega) (by omega) (by rw [Nat.mul_one]))) hR.st0
       ·intro ac done u W Sx hR
        have g : Gr w15 W := hR.1
        exact X.vl (X.load rfl (Sx.ev 114 (.pointer (some (pd18.add (j + 1))))) (X.ld1 (Try.agg34 _) ((hC.gr g).at 5 rfl))) hR.st0
       ·intro ac done u W Sx hR
        exact X.vl (X.len1 Try.underlying34 rfl (Sx.ev 115 (.slice xb.a xb.xs.length xb.c))) hR.st0
       ·intro ac done u W Sx hR
        exact X.vl (X.move rfl (Sx.ev 16 (Vi xa.xs.length))) hR.st0
       ·intro ac done u W Sx hR
        exact X.vl (X.binop rfl (Sx.ev 116 (Vi xb.xs.length)) (Sx.ev 117 (Vi xa.xs.length)) (X.geqI Try.underlying3 h20)) hR.st0
       ·intro ac done u W Sx hR
        exact X.vl (X.move rfl (Sx.ev 118 (.bool true))) hR.st0
       ·intro ac done u W Sx hR
        exact X.val (X.w1 rfl (Sx.yl 7 119 true (by kernel_rfl) rfl rfl)) rfl (X.move rfl (Sx.ev 10 (.slice (some pd18) E.length oc))) hR.st0
       ·intro ac done u W Sx hR
        exact X.val (X.w1 rfl (Sx.yl 7 119 true (by kernel_rfl) rfl rfl)) rfl (X.move rfl (Sx.ev 15 (Vi ((j : Int) + 1)))) hR.st0
       ·intro ac done u W Sx hR
        exact X.val (X.w1 rfl (Sx.yl 7 119 true (by kernel_rfl) rfl rfl)) rfl (X.index rfl (Sx.ev 120 (.slice (some pd18) E.length oc)) (Sx.ev 121 (Vi ((j : Int) + 1))) (X.idx (k := j + 1) Try.underlying38 (Try.siz34 _) (by omega) (by omega) (by rw [Nat.mul_one]))) hR.st0
       ·intro ac done u W Sx hR
        have g : Gr w15 W := hR.1
        exact X.val (X.w1 rfl (Sx.yl 7 119 true (by kernel_rfl) rfl rfl)) rfl (X.load rfl (Sx.ev 122 (.pointer (some (pd18.add (j + 1))))) (X.ld1 (Try.agg34 _) ((hC.gr g).at 5 rfl))) hR.st0
       ·intro ac done u W Sx hR
        exact X.val (X.w1 rfl (Sx.yl 7 119 true (by kernel_rfl) rfl rfl)) rfl (X.move rfl (Sx.ev 16 (Vi xa.xs.length))) hR.st0
       ·intro ac done u W Sx hR
        exact X.val (X.w1 rfl (Sx.yl 7 119 true (by kernel_rfl) rfl rfl)) rfl (Y.slH (k := xa.xs.length) rfl (Sx.ev 123 (.slice xb.a xb.xs.length xb.c)) (Sx.ev 124 (Vi xa.xs.length)) Try.underlying34 (Try.siz3 _) (by omega) (by omega)) hR.st0
       ·intro ac done u W Sx hR
        exact X.val (X.w1 rfl (Sx.yl 7 119 true (by kernel_rfl) rfl rfl)) rfl (X.move rfl (Sx.ev 10 (.slice (some pd18) E.length oc))) hR.st0
       ·intro ac done u W Sx hR
        exact X.val (X.w1 rfl (Sx.yl 7 119 true (by kernel_rfl) rfl rfl)) rfl (X.move rfl (Sx.ev 15 (Vi ((j : Int) + 1)))) hR.st0
       ·intro ac done u W Sx hR
        exact X.val (X.w1 rfl (Sx.yl 7 119 true (by kernel_rfl) rfl rfl)) rfl (X.binop rfl (Sx.ev 127 (Vi ((j : Int) + 1))) (X.kc (Vi 1) rfl) (X.subI Try.underlying3 rfl (by omega) (by omega))) hR.st0
       ·intro ac done u W Sx hR
        exact X.val (X.w1 rfl (Sx.yl 7 119 true (by kernel_rfl) rfl rfl)) rfl (X.index rfl (Sx.ev 126 (.slice (some pd18) E.length oc)) (Sx.ev 128 (Vi (((j : Int) + 1 : Int) - 1))) (X.idx (k := j) Try.underlying38 (Try.siz34 _) (by omega) (by omega) (by rw [Nat.mul_one]))) hR.st0
       ·intro ac done u W Sx hR
        have g : Gr w15 W := hR.1
        exact X.val (X.w1 rfl (Sx.yl 7 119 true (by kernel_rfl) rfl rfl)) rfl (X.load rfl (Sx.ev 129 (.pointer (some (pd18.add j)))) (X.ld1 (Try.agg34 _) ((hC.gr g).at 4 rfl))) hR.st0
       ·intro ac done u W Sx hR
        have g : Gr w15 W := hR.1
        refine X.call (X.w1 rfl (Sx.yl 7 119 true (by kernel_rfl) rfl rfl)) (X.enter (F := 91) rfl (X.kc (.func (.func 91) #[] #[]) rfl) (X.a2 (Sx.ev 125 (.slice xb.a xa.xs.length xb.c)) (Sx.ev 130 (.slice xa.a xa.xs.length xa.c))) (enters_of Try.func91 (by kernel_rfl) rfl _)) (by have hq := equal_any xb.a xa.a xb.c xa.c (xb.xs.take xa.xs.length) xa.xs W ((pI19.gr g).takeN (by omega)) (pI18.gr g); rw [List.length_take, Nat.min_eq_left (show xa.xs.length ≤ xb.xs.length by omega), ← pfx_take (show xa.xs.length ≤ xb.xs.length by omega)] at hq; exact hq) ?_
        rintro e W2 ⟨rfl, g2⟩
        exact ⟨_, rfl, X.kn rfl, hR.step g2 rfl⟩
       ·intro ac done u W Sx hR
        exact X.vl (X.pickT rfl (Sx.ev 119 (.bool true)) (Sx.ev 131 (.bool (xa.xs.isPrefixOf xb.xs)))) hR.st0
       intro ac u w22 hs hd hl ho hR
       have g : Gr w15 w22 := hR.1
       replace F : Fr ac 140 [(3, Vp w.heap.size), (9, .func (.func 87) #[] #[Vp w.heap.size]), (10, .slice (some pd18) E.length oc), (11, Vi ((sumE p E E.length : Nat) : Int)), (15, Vi ((j : Int) + 1)), (132, .bool (xa.xs.isPrefixOf xb.xs))] := X.fr hs hd hl _ (by kernel_rfl)
       clear hs hd hl ho hR
       replace G := G.trans g
       replace hC := hC.gr g
       replace hO1 := hO1.thenGr g
       replace hpt := hpt.gr g
       replace hph := hph.gr g
       replace hpb := hpb.gr g
       replace hpl := hpl.gr g
       replace hl := hl.gr g
       replace hRr := hRr.gr g
       replace pI18 := pI18.gr g
       replace pI19 := pI19.gr g
       clear g
       refine X.thenN ?_
       cases h23 : xa.xs.isPrefixOf xb.xs with
       | false =>
        try rw [h23] at F
        have hpx : ((S.map BegE.xs)[j]?.getD []).isPrefixOf ((S.map BegE.xs)[j + 1]?.getD []) = false := by rw [rows_gt hxxa, rows_gt hxxb]; exact h23
        refine Y.cF F 132 ?_
        refine Y.skip ?_
        refine X.blockN (X.thenN ?_)
        refine Y.lg F [(3, Vp w.heap.size), (9, .func (.func 87) #[] #[Vp w.heap.size]), (10, .slice (some pd18) E.length oc), (11, Vi ((sumE p E E.length : Nat) : Int)), (15, Vi (((j : Int) + 1 : Int) + 1))] (by
         refine Y.pv F (X.move rfl (F.ev 15 (Vi ((j : Int) + 1)))) fun ac F=>?_
         refine Y.pv F (X.binop rfl (F.ev 104 (Vi ((j : Int) + 1))) (X.kc (Vi 1) rfl) (X.addI Try.underlying3 rfl (by omega) (by omega))) fun ac F=>?_
         refine Y.pv F (X.assign rfl (F.ev 105 (Vi (((j : Int) + 1 : Int) + 1)))) fun ac F=>?_
         exact Y.fin F) ?_;clear F ac;intro ac F
        refine ⟨_, ?_, j + 1, rfl, hO1, by omega, fun i h1 h2 => if e : i = j then by subst e; exact hpx else hadj i (by omega) h2, (by rw [show ((j + 1 : Nat) : Int) + 1 = (j : Int) + 1 + 1 by omega]; exact F.sub _)⟩
        omega
       | true =>
        try rw [h23] at F
        have hpx : ((S.map BegE.xs)[j]?.getD []).isPrefixOf ((S.map BegE.xs)[j + 1]?.getD []) = true := by rw [rows_gt hxxa, rows_gt hxxb]; exact h23
        refine Y.cT F 132 ?_
        refine Y.sg F [(6, .bool false), (7, Vi 0)] (Y.pv F (X.assign rfl (X.kc (.bool false) rfl)) fun ac F=>Y.pv F (X.assign rfl (X.kc (Vi 0) rfl)) fun ac F=>Y.fin F) ?_;clear F ac;intro ac F
        refine Y.ret ?_
        refine X.blockR (X.thenR (X.thenR (X.blockR (X.thenR ?_))))
        exact Y.ret0 (v := .tuple #[.bool false, Vi 0]) F (Y.rs2 F rfl (by kernel_rfl) (by kernel_rfl)) ⟨by rw [hpc, ← adj_anti (hSp.trans rows_b) hSs, adj_no (by rw [List.length_map]; omega) hpx, hck]; rfl, G⟩
    | true =>
     try rw [h13] at F
     have h13p : (((p.nh ^ p.nt : Nat) : Int) : Int) = 0 := by simpa using h13
     have hz0 : p.nh ^ p.nt = 0 := by omega
     refine Y.cT F 97 ?_
     refine Y.sg F [(6, .bool true), (7, Vi 0)] (Y.pv F (X.assign rfl (X.kc (.bool true) rfl)) fun ac F=>Y.pv F (X.assign rfl (X.kc (Vi 0) rfl)) fun ac F=>Y.fin F) ?_;clear F ac;intro ac F
     refine Y.ret ?_
     refine X.thenR ?_
     exact Y.ret0 (v := .tuple #[.bool true, Vi 0]) F (Y.rs2 F rfl (by kernel_rfl) (by kernel_rfl)) ⟨by rw [prov_z hck hok hz0, hck], G⟩
   | true =>
    try rw [h11] at F
    have h11p : ((i : Int) < E.length) := of_decide_eq_true h11
    refine Y.cT F 29 ?_
    refine Y.skip ?_
    refine X.thenN ?_
    refine Y.seq ?_
    refine Y.block ?_
    refine Y.sl ?_
    obtain ⟨xf, hxf⟩ : ∃ x, E[i]? = some x := ⟨_, List.getElem?_eq_getElem (by omega)⟩
    obtain ⟨pd24, pe24, pc024, pw024, pI0, -⟩ := hL i xf hxf
    have pc24 := (G.cell (lt_cell pc024)).trans pc024
    have pw24 := (G.cell (lt_cell pw024)).trans pw024
    have pI := pI0.gr G
    subst pe24
    replace hC := hC.append (show RCells w10 (Y.cs (pd24.add (i * 2)) [.slice xf.b.a xf.b.xs.length xf.b.c, Vi xf.why]) from (RCells.cons pc24 (RCells.cons pw24 (RCells.nil _))))
    clear pc24
    refine Y.pv2 F (X.index rfl (F.ev 26 (.slice (some pd24) E.length lc9)) (F.ev 28 (Vi i)) (X.idx (k := i) Try.underlying45 (Try.siz49 _) (by omega) (by omega) rfl)) (fun _ F=>X.load rfl (F.ev 30 (.pointer (some (pd24.add (i * 2))))) (X.ldN (Try.agg49 _) (Try.siz49 _) (Y.atz (pd24.add (i * 2)) (Y.AtFrom.cons (hC.at 4 rfl) (Y.AtFrom.cons (hC.at 5 rfl) (Y.AtFrom.nil _ _ _)))))) ?_;clear F ac;intro ac F
    have hb49 : w10.heap.size ≤ w10.heap.size := GH.size
    clear GH
    refine Y.pv F (Y.al rfl (Try.new49 _)) fun ac F=>Y.punit F (X.w0 rfl) rfl (X.store rfl (F.ev 13 (Vp w10.heap.size)) (F.ev 31 (.agg #[.slice xf.b.a xf.b.xs.length xf.b.c, Vi xf.why])) (Y.stNew [.slice xf.b.a xf.b.xs.length xf.b.c, Vi xf.why] [.slice none 0 0, Vi 0] (Try.siz49 _) rfl rfl)) ?_;clear F ac;intro ac F
    have hgs25 : w.heap.size ≤ w10.heap.size := G.size
    obtain ⟨w26, hw_, g, hb, hbl, hC2⟩ := Y.bxd hC #[.slice xf.b.a xf.b.xs.length xf.b.c, Vi xf.why] 49;rw [hw_];clear hw_
    replace G := G.trans g
    replace hC := hC2
    clear hC2
    replace hO1 := hO1.thenGr g
    replace hpt := hpt.gr g
    replace hph := hph.gr g
    replace hpb := hpb.gr g
    replace hpl := hpl.gr g
    replace hl := hl.gr g
    replace hRo := hRo.gr g
    replace pI := pI.gr g
    clear g hb hbl
    refine Y.nt F [(2, Vi cost), (3, Vp w.heap.size), (9, .func (.func 87) #[] #[Vp w.heap.size]), (10, .slice oa i oc), (11, Vi ((sumE p E i : Nat) : Int)), (13, Vp w10.heap.size), (26, .slice (some pd24) E.length lc9), (27, Vi E.length), (28, Vi i)] ?_;clear F ac;intro ac F
    refine Y.seq ?_
    refine Y.sl ?_
    refine Y.pv4 F (X.field rfl (F.ev 13 (Vp w10.heap.size)) (X.fld Try.underlying49 rfl (Try.siz34 _) rfl rfl)) (fun _ F=>X.load rfl (F.ev 32 (Vp w10.heap.size)) (X.ld1 (Try.agg34 _) (hC.at 6 rfl))) (fun _ F=>X.len1 Try.underlying34 rfl (F.ev 33 (.slice xf.b.a xf.b.xs.length xf.b.c))) (fun _ F=>X.field rfl (F.ev 3 (Vp w.heap.size)) (X.fld Try.underlying27 rfl (Try.siz22 _) rfl rfl)) fun ac F=>Y.pv4 F (X.load rfl (F.ev 35 (Vp w.heap.size)) (X.ld1 (Try.agg22 _) (hC.at 0 rfl))) (fun _ F=>X.len1 Try.underlying22 rfl (F.ev 36 (.slice ta p.nt tc))) (fun _ F=>X.binop rfl (F.ev 34 (Vi xf.b.xs.length)) (F.ev 37 (Vi p.nt)) (X.gtrI Try.underlying3 rfl)) (fun _ F=>X.move rfl (F.ev 38 (.bool (decide ((p.nt : Int) < xf.b.xs.length))))) ?_;clear F ac;intro ac F
    cases h27 : decide ((p.nt : Int) < xf.b.xs.length) with
    | false =>
     try rw [h27] at F
     have h27p : ¬ ((p.nt : Int) < xf.b.xs.length) := of_decide_eq_false h27
     have hlen : xf.b.xs.length ≤ p.nt := by omega
     refine Y.pg F 7 39 false (X.load rfl (F.ev 3 (Vp w.heap.size)) (X.ldN (Try.agg27 _) (Try.siz27 _) (Y.atz (⟨w.heap.size, 0, none⟩) (Y.AtFrom.cons (hC.at 0 rfl) (Y.AtFrom.cons (hC.at 1 rfl) (Y.AtFrom.cons (hC.at 2 rfl) (Y.AtFrom.cons (hC.at 3 rfl) (Y.AtFrom.nil _ _ _)))))))) fun ac F=>Y.pg F 7 39 false (X.field rfl (F.ev 13 (Vp w10.heap.size)) (X.fld Try.underlying49 rfl (Try.siz34 _) rfl rfl)) fun ac F=>Y.pg F 7 39 false (X.load rfl (F.ev 41 (Vp w10.heap.size)) (X.ld1 (Try.agg34 _) (hC.at 6 rfl))) ?_;clear F ac;intro ac F
     refine Y.pcall F (X.w1 rfl (F.yl (j := 7) (d := 39) (b := false) rfl (by kernel_rfl))) rfl (X.enter (F := 88) rfl (X.kc (.func (.func 88) #[] #[]) rfl) (X.a2 (F.ev 40 (.agg #[.slice ta p.nt tc, .slice ha p.nh hc, .slice ba p.nb bc, .slice la p.nl lc])) (F.ev 42 (.slice xf.b.a xf.b.xs.length xf.b.c))) (enters_of Try.func88 (by kernel_rfl) rfl _)) (hosted_any p ta ha ba la tc hc bc lc xf.b.a xf.b.c xf.b.xs w26 (hP.gr G) pI) ?_
     clear F ac
     rintro e w28 ⟨rfl, g⟩
     refine ⟨_, rfl, ?_⟩
     intro ac F
     replace G := G.trans g
     replace hC := hC.gr g
     replace hO1 := hO1.thenGr g
     replace hpt := hpt.gr g
     replace hph := hph.gr g
     replace hpb := hpb.gr g
     replace hpl := hpl.gr g
     replace hl := hl.gr g
     replace hRo := hRo.gr g
     replace pI := pI.gr g
     clear g
     refine Y.pg F 7 39 false (X.notB rfl (F.ev 43 (.bool (hosB p xf.b.xs))) rfl) fun ac F=>Y.pv F (X.pickF rfl (F.ev 39 (.bool false)) (F.ev 44 (.bool (!(hosB p xf.b.xs))))) ?_;clear F ac;intro ac F
     refine Y.nt F [(2, Vi cost), (3, Vp w.heap.size), (9, .func (.func 87) #[] #[Vp w.heap.size]), (10, .slice oa i oc), (11, Vi ((sumE p E i : Nat) : Int)), (13, Vp w10.heap.size), (26, .slice (some pd24) E.length lc9), (27, Vi E.length), (28, Vi i), (45, .bool (!(hosB p xf.b.xs)))] ?_;clear F ac;intro ac F
     cases h29 : hosB p xf.b.xs with
     | false =>
      try rw [h29] at F
      have hlf : lfB p cost (xf.b.xs, xf.why) = false := lf_2 h29
      refine Y.cT F 45 ?_
      refine Y.sg F [(6, .bool false), (7, Vi 0)] (Y.pv F (X.assign rfl (X.kc (.bool false) rfl)) fun ac F=>Y.pv F (X.assign rfl (X.kc (Vi 0) rfl)) fun ac F=>Y.fin F) ?_;clear F ac;intro ac F
      refine Y.ret ?_
      refine X.thenR (X.blockR (X.thenR (X.thenR (X.blockR (X.thenR ?_)))))
      exact Y.ret0 (v := .tuple #[.bool false, Vi 0]) F (Y.rs2 F rfl (by kernel_rfl) (by kernel_rfl)) ⟨by rw [prov_no hxf hlf, hck], G⟩
     | true =>
      try rw [h29] at F
      have hx := hosB_iff.1 h29
      have hho := h29
      have hpw9 := pow_sm hh6 (show p.nt - xf.b.xs.length ≤ 10 by omega)
      refine Y.cF F 45 ?_
      refine Y.skip ?_
      refine X.thenN ?_
      refine Y.sl ?_
      refine Y.pv3 F (X.load rfl (F.ev 3 (Vp w.heap.size)) (X.ldN (Try.agg27 _) (Try.siz27 _) (Y.atz (⟨w.heap.size, 0, none⟩) (Y.AtFrom.cons (hC.at 0 rfl) (Y.AtFrom.cons (hC.at 1 rfl) (Y.AtFrom.cons (hC.at 2 rfl) (Y.AtFrom.cons (hC.at 3 rfl) (Y.AtFrom.nil _ _ _)))))))) (fun _ F=>X.field rfl (F.ev 13 (Vp w10.heap.size)) (X.fld Try.underlying49 rfl (Try.siz34 _) rfl rfl)) (fun _ F=>X.load rfl (F.ev 47 (Vp w10.heap.size)) (X.ld1 (Try.agg34 _) (hC.at 6 rfl))) fun ac F=>Y.pc F 73 (X.a2 (F.ev 46 (.agg #[.slice ta p.nt tc, .slice ha p.nh hc, .slice ba p.nb bc, .slice la p.nl lc])) (F.ev 48 (.slice xf.b.a xf.b.xs.length xf.b.c))) Try.func73 (loaded_any p ta ha ba la tc hc bc lc xf.b.a xf.b.xs.length xf.b.c xf.b.xs w28 (hP.gr G) pI hp hlen hx) ?_
      clear F ac
      rintro e w30 ⟨rfl, g⟩
      refine ⟨_, rfl, ?_⟩
      intro ac F
      replace G := G.trans g
      replace hC := hC.gr g
      replace hO1 := hO1.thenGr g
      replace hpt := hpt.gr g
      replace hph := hph.gr g
      replace hpb := hpb.gr g
      replace hpl := hpl.gr g
      replace hl := hl.gr g
      replace hRo := hRo.gr g
      replace pI := pI.gr g
      clear g
      have hb108 : w7.heap.size ≤ w30.heap.size := hO1.size
      have hbq31 : w.heap.size < w30.heap.size := lt_cell (hC.at 0 rfl)
      have hbq32 : w10.heap.size < w30.heap.size := lt_cell (hC.at 6 rfl)
      refine Y.pv F (Y.al rfl (Try.new108 _)) ?_;clear F ac;intro ac F
      have g := Gr.alloc w30 (.cells #[Vi 0, Vi 0, Vi 0, Vi 0, Vi 0, Vi 0, Vi 0, Vi 0, Vi 0, Vi 0, Vi 0, Vi 0, Vi 0, Vi 0, Vi 0, Vi 0, Vi 0, Vi 0] 108)
      have hb := heap_alloc_new w30 (.cells #[Vi 0, Vi 0, Vi 0, Vi 0, Vi 0, Vi 0, Vi 0, Vi 0, Vi 0, Vi 0, Vi 0, Vi 0, Vi 0, Vi 0, Vi 0, Vi 0, Vi 0, Vi 0] 108)
      have hszw33 : w30.heap.size < (w30.alloc (.cells #[Vi 0, Vi 0, Vi 0, Vi 0, Vi 0, Vi 0, Vi 0, Vi 0, Vi 0, Vi 0, Vi 0, Vi 0, Vi 0, Vi 0, Vi 0, Vi 0, Vi 0, Vi 0] 108)).heap.size := by simp
      have hgsw33 : w.heap.size ≤ w30.heap.size := G.size
      generalize w30.alloc (.cells #[Vi 0, Vi 0, Vi 0, Vi 0, Vi 0, Vi 0, Vi 0, Vi 0, Vi 0, Vi 0, Vi 0, Vi 0, Vi 0, Vi 0, Vi 0, Vi 0, Vi 0, Vi 0] 108) = w33 at *
      replace G := G.trans g
      replace hC := hC.gr g
      replace hO1 := hO1.thenGr g
      replace hpt := hpt.gr g
      replace hph := hph.gr g
      replace hpb := hpb.gr g
      replace hpl := hpl.gr g
      replace hl := hl.gr g
      replace hRo := hRo.gr g
      replace pI := pI.gr g
      have hVw33 : OwnP w33 w30.heap.size 18 (LV (fun _ => 0)) := ld_own (l := fun _ => 0) hb
      clear g hb
      obtain ⟨w34, hrun, hV2, hon⟩ := ld_store (P := Try.prog) (l := (ldV p xf.b.xs xf.b.xs.length)) (t := 108) hVw33 (fun W => Try.siz108 W)
      refine Y.punit F (X.w0 rfl) rfl (X.store rfl (F.ev 14 (Vp w30.heap.size)) (F.ev 49 (.agg (ldA (ldV p xf.b.xs xf.b.xs.length)).toArray)) hrun) ?_
      clear F ac hrun
      intro ac F
      replace hVw33 : OwnP w34 w30.heap.size 18 (LV (ldV p xf.b.xs xf.b.xs.length)) := hV2
      clear hV2
      replace G := Y.Only.up G hon (by omega)
      replace hpt := (hP.t).gr G
      replace hph := (hP.h).gr G
      replace hpb := (hP.b).gr G
      replace hpl := (hP.l).gr G
      replace hl := (hL).gr G
      replace hRo := hRo.only hon (fun x e h => by have h1 := hgL0 x e; have h2 : x = w30.heap.size := h; omega)
      replace pI := pI0.gr G
      replace hO1 := hO1.step hon (.inr (by omega))
      replace hC := (hC.kc hon 0 rfl (hC.kc hon 1 rfl (hC.kc hon 2 rfl (hC.kc hon 3 rfl (hC.kc hon 6 rfl (hC.kc hon 7 rfl (RCells.nil _)))))))
      clear hon
      refine Y.nt F [(2, Vi cost), (3, Vp w.heap.size), (9, .func (.func 87) #[] #[Vp w.heap.size]), (10, .slice oa i oc), (11, Vi ((sumE p E i : Nat) : Int)), (13, Vp w10.heap.size), (14, Vp w30.heap.size), (26, .slice (some pd24) E.length lc9), (27, Vi E.length), (28, Vi i)] ?_;clear F ac;intro ac F
      refine Y.seqJ (fun ac wr => Gr w34 wr ∧ lfB p cost (xf.b.xs, xf.why) = true ∧ Fr ac 140 [(2, Vi cost), (3, Vp w.heap.size), (9, .func (.func 87) #[] #[Vp w.heap.size]), (10, .slice oa i oc), (11, Vi ((sumE p E i : Nat) : Int)), (13, Vp w10.heap.size), (26, .slice (some pd24) E.length lc9), (27, Vi E.length), (28, Vi i)]) ?_ ?_
      ·have GJ_ := Gr.refl w34
       refine Y.sl ?_
       refine Y.pv4 F (X.field rfl (F.ev 13 (Vp w10.heap.size)) (X.fld Try.underlying49 rfl (Try.siz3 _) rfl rfl)) (fun _ F=>X.load rfl (F.ev 50 (.pointer (some ⟨w10.heap.size, 1, none⟩))) (X.ld1 (Try.agg3 _) (hC.at 5 rfl))) (fun _ F=>X.binop rfl (F.ev 51 (Vi xf.why)) (X.kc (Vi 1) rfl) (X.eqlI Try.underlying3 rfl)) (fun _ F=>X.move rfl (F.ev 52 (.bool ((xf.why : Int) == 1)))) ?_;clear F ac;intro ac F
       cases h35 : ((xf.why : Int) == 1) with
       | false =>
        try rw [h35] at F
        have h35p : ¬ (xf.why : Int) = 1 := by simpa using h35
        have hw1 : ¬ xf.why = 1 := by omega
        refine Y.p5 F 3 53 false fun ac F=>Y.pv2 F (X.pickF rfl (F.ev 53 (.bool false)) (X.kc (.bool false) rfl)) (fun _ F=>X.move rfl (F.ev 59 (.bool false))) fun ac F=>Y.pg F 10 60 false (X.field rfl (F.ev 13 (Vp w10.heap.size)) (X.fld Try.underlying49 rfl (Try.siz3 _) rfl rfl)) fun ac F=>Y.pg F 10 60 false (X.load rfl (F.ev 61 (.pointer (some ⟨w10.heap.size, 1, none⟩))) (X.ld1 (Try.agg3 _) (hC.at 5 rfl))) fun ac F=>Y.pg F 10 60 false (X.binop rfl (F.ev 62 (Vi xf.why)) (X.kc (Vi 2) rfl) (X.eqlI Try.underlying3 rfl)) fun ac F=>Y.pg F 10 60 false (X.move rfl (F.ev 63 (.bool ((xf.why : Int) == 2)))) ?_;clear F ac;intro ac F
        cases h36 : ((xf.why : Int) == 2) with
        | false =>
         try rw [h36] at F
         have h36p : ¬ (xf.why : Int) = 2 := by simpa using h36
         have hw2 : ¬ xf.why = 2 := by omega
         have hlf : lfB p cost (xf.b.xs, xf.why) = false := lf_4 hw1 hw2
         refine Y.p5 F 14 64 false fun ac F=>Y.p2 F 14 64 false fun ac F=>Y.pg F 10 60 false (X.pickF rfl (F.ev 64 (.bool false)) (X.kc (.bool false) rfl)) fun ac F=>Y.pv2 F (X.pickF rfl (F.ev 60 (.bool false)) (F.ev 72 (.bool false))) (fun _ F=>X.notB rfl (F.ev 73 (.bool false)) rfl) ?_;clear F ac;intro ac F
         refine Y.nt F [(2, Vi cost), (3, Vp w.heap.size), (9, .func (.func 87) #[] #[Vp w.heap.size]), (10, .slice oa i oc), (11, Vi ((sumE p E i : Nat) : Int)), (13, Vp w10.heap.size), (26, .slice (some pd24) E.length lc9), (27, Vi E.length), (28, Vi i), (74, .bool true)] ?_;clear F ac;intro ac F
         refine Y.cT F 74 ?_
         refine Y.sg F [(6, .bool false), (7, Vi 0)] (Y.pv F (X.assign rfl (X.kc (.bool false) rfl)) fun ac F=>Y.pv F (X.assign rfl (X.kc (Vi 0) rfl)) fun ac F=>Y.fin F) ?_;clear F ac;intro ac F
         refine Y.ret ?_
         refine X.thenR (X.blockR (X.thenR (X.thenR (X.blockR (X.thenR ?_)))))
         exact Y.ret0 (v := .tuple #[.bool false, Vi 0]) F (Y.rs2 F rfl (by kernel_rfl) (by kernel_rfl)) ⟨by rw [prov_no hxf hlf, hck], G⟩
        | true =>
         try rw [h36] at F
         have h36p : (xf.why : Int) = 2 := by simpa using h36
         have hw2 : xf.why = 2 := by omega
         refine Y.pg F 14 64 true (X.load rfl (F.ev 3 (Vp w.heap.size)) (X.ldN (Try.agg27 _) (Try.siz27 _) (Y.atz (⟨w.heap.size, 0, none⟩) (Y.AtFrom.cons (hC.at 0 rfl) (Y.AtFrom.cons (hC.at 1 rfl) (Y.AtFrom.cons (hC.at 2 rfl) (Y.AtFrom.cons (hC.at 3 rfl) (Y.AtFrom.nil _ _ _)))))))) fun ac F=>Y.pg F 14 64 true (X.field rfl (F.ev 13 (Vp w10.heap.size)) (X.fld Try.underlying49 rfl (Try.siz34 _) rfl rfl)) fun ac F=>Y.pg F 14 64 true (X.load rfl (F.ev 66 (Vp w10.heap.size)) (X.ld1 (Try.agg34 _) (hC.at 4 rfl))) fun ac F=>Y.pg F 14 64 true (X.load rfl (F.ev 14 (Vp w30.heap.size)) (ld_load hVw33 (Try.agg108 _) (Try.siz108 _))) ?_;clear F ac;intro ac F
         refine Y.pcall F (X.w1 rfl (F.yl (j := 14) (d := 64) (b := true) rfl (by kernel_rfl))) rfl (X.enter (F := 76) rfl (X.kc (.func (.func 76) #[] #[]) rfl) (X.a3 (F.ev 65 (.agg #[.slice ta p.nt tc, .slice ha p.nh hc, .slice ba p.nb bc, .slice la p.nl lc])) (F.ev 67 (.slice xf.b.a xf.b.xs.length xf.b.c)) (F.ev 68 (.agg (ldA (ldV p xf.b.xs xf.b.xs.length)).toArray))) (enters_of Try.func76 (by kernel_rfl) rfl _)) (by have hq := bnd_any p ta ha ba la tc hc bc lc xf.b.a xf.b.c xf.b.xs (ldV p xf.b.xs xf.b.xs.length) w34 (hP.gr G) pI hp hx hlen; rw [bnd_ld hx] at hq; exact hq) ?_
         clear F ac
         rintro e w37 ⟨rfl, g⟩
         refine ⟨_, rfl, ?_⟩
         intro ac F
         replace G := G.trans g
         replace hC := hC.gr g
         replace GJ_ := GJ_.trans g
         replace hO1 := hO1.thenGr g
         replace hpt := hpt.gr g
         replace hph := hph.gr g
         replace hpb := hpb.gr g
         replace hpl := hpl.gr g
         replace hl := hl.gr g
         replace hRo := hRo.gr g
         replace pI := pI.gr g
         replace hVw33 := hVw33.gr g
         clear g
         refine Y.pg F 14 64 true (X.move rfl (F.ev 2 (Vi cost))) fun ac F=>Y.pg F 14 64 true (X.binop rfl (F.ev 69 (Vi (bndV p xf.b.xs))) (F.ev 70 (Vi cost)) (X.geqI Try.underlying3 rfl)) fun ac F=>Y.pg F 10 60 false (X.pickT rfl (F.ev 64 (.bool true)) (F.ev 71 (.bool (decide ((cost : Int) ≤ (bndV p xf.b.xs)))))) fun ac F=>Y.pv2 F (X.pickF rfl (F.ev 60 (.bool false)) (F.ev 72 (.bool (decide ((cost : Int) ≤ (bndV p xf.b.xs)))))) (fun _ F=>X.notB rfl (F.ev 73 (.bool (decide ((cost : Int) ≤ (bndV p xf.b.xs))))) rfl) ?_;clear F ac;intro ac F
         refine Y.nt F [(2, Vi cost), (3, Vp w.heap.size), (9, .func (.func 87) #[] #[Vp w.heap.size]), (10, .slice oa i oc), (11, Vi ((sumE p E i : Nat) : Int)), (13, Vp w10.heap.size), (26, .slice (some pd24) E.length lc9), (27, Vi E.length), (28, Vi i), (74, .bool (!(decide ((cost : Int) ≤ (bndV p xf.b.xs)))))] ?_;clear F ac;intro ac F
         cases h38 : decide ((cost : Int) ≤ (bndV p xf.b.xs)) with
         | false =>
          try rw [h38] at F
          have h38p : ¬ ((cost : Int) ≤ (bndV p xf.b.xs)) := of_decide_eq_false h38
          have hlf : lfB p cost (xf.b.xs, xf.why) = false := lf_5 hw1 (by omega)
          refine Y.cT F 74 ?_
          refine Y.sg F [(6, .bool false), (7, Vi 0)] (Y.pv F (X.assign rfl (X.kc (.bool false) rfl)) fun ac F=>Y.pv F (X.assign rfl (X.kc (Vi 0) rfl)) fun ac F=>Y.fin F) ?_;clear F ac;intro ac F
          refine Y.ret ?_
          refine X.thenR (X.blockR (X.thenR (X.thenR (X.blockR (X.thenR ?_)))))
          exact Y.ret0 (v := .tuple #[.bool false, Vi 0]) F (Y.rs2 F rfl (by kernel_rfl) (by kernel_rfl)) ⟨by rw [prov_no hxf hlf, hck], G⟩
         | true =>
          try rw [h38] at F
          have h38p : ((cost : Int) ≤ (bndV p xf.b.xs)) := of_decide_eq_true h38
          have hlf : lfB p cost (xf.b.xs, xf.why) = true := lf_7 hw2 hlen hho (by omega)
          refine Y.cF F 74 ?_
          refine Y.skip ?_
          refine X.thenN ?_
          exact ⟨GJ_, hlf, F.sub _⟩
       | true =>
        try rw [h35] at F
        have h35p : (xf.why : Int) = 1 := by simpa using h35
        have hw1 : xf.why = 1 := by omega
        refine Y.pg F 3 53 true (X.load rfl (F.ev 3 (Vp w.heap.size)) (X.ldN (Try.agg27 _) (Try.siz27 _) (Y.atz (⟨w.heap.size, 0, none⟩) (Y.AtFrom.cons (hC.at 0 rfl) (Y.AtFrom.cons (hC.at 1 rfl) (Y.AtFrom.cons (hC.at 2 rfl) (Y.AtFrom.cons (hC.at 3 rfl) (Y.AtFrom.nil _ _ _)))))))) fun ac F=>Y.pg F 3 53 true (X.field rfl (F.ev 13 (Vp w10.heap.size)) (X.fld Try.underlying49 rfl (Try.siz34 _) rfl rfl)) fun ac F=>Y.pg F 3 53 true (X.load rfl (F.ev 55 (Vp w10.heap.size)) (X.ld1 (Try.agg34 _) (hC.at 4 rfl))) fun ac F=>Y.pg F 3 53 true (X.load rfl (F.ev 14 (Vp w30.heap.size)) (ld_load hVw33 (Try.agg108 _) (Try.siz108 _))) ?_;clear F ac;intro ac F
        refine Y.pcall F (X.w1 rfl (F.yl (j := 3) (d := 53) (b := true) rfl (by kernel_rfl))) rfl (X.enter (F := 72) rfl (X.kc (.func (.func 72) #[] #[]) rfl) (X.a3 (F.ev 54 (.agg #[.slice ta p.nt tc, .slice ha p.nh hc, .slice ba p.nb bc, .slice la p.nl lc])) (F.ev 56 (.slice xf.b.a xf.b.xs.length xf.b.c)) (F.ev 57 (.agg (ldA (ldV p xf.b.xs xf.b.xs.length)).toArray))) (enters_of Try.func72 (by kernel_rfl) rfl _)) (by have hq := hop_any p ta ha ba la tc hc bc lc xf.b.a xf.b.c xf.b.xs (ldV p xf.b.xs xf.b.xs.length) w34 (hP.gr G) pI hp hx hlen; rw [hope_ld hx] at hq; exact hq) ?_
        clear F ac
        rintro e w39 ⟨rfl, g⟩
        refine ⟨_, rfl, ?_⟩
        intro ac F
        replace G := G.trans g
        replace hC := hC.gr g
        replace GJ_ := GJ_.trans g
        replace hO1 := hO1.thenGr g
        replace hpt := hpt.gr g
        replace hph := hph.gr g
        replace hpb := hpb.gr g
        replace hpl := hpl.gr g
        replace hl := hl.gr g
        replace hRo := hRo.gr g
        replace pI := pI.gr g
        replace hVw33 := hVw33.gr g
        clear g
        refine Y.pv2 F (X.pickT rfl (F.ev 53 (.bool true)) (F.ev 58 (.bool (hopeB p (tim p) xf.b.xs)))) (fun _ F=>X.move rfl (F.ev 59 (.bool (hopeB p (tim p) xf.b.xs)))) ?_;clear F ac;intro ac F
        cases h40 : hopeB p (tim p) xf.b.xs with
        | false =>
         try rw [h40] at F
         have hlf : lfB p cost (xf.b.xs, xf.why) = false := lf_3 hw1 h40
         refine Y.pg F 10 60 false (X.field rfl (F.ev 13 (Vp w10.heap.size)) (X.fld Try.underlying49 rfl (Try.siz3 _) rfl rfl)) fun ac F=>Y.pg F 10 60 false (X.load rfl (F.ev 61 (.pointer (some ⟨w10.heap.size, 1, none⟩))) (X.ld1 (Try.agg3 _) (hC.at 5 rfl))) fun ac F=>Y.pg F 10 60 false (X.binop rfl (F.ev 62 (Vi xf.why)) (X.kc (Vi 2) rfl) (X.eqlI Try.underlying3 rfl)) fun ac F=>Y.pg F 10 60 false (X.move rfl (F.ev 63 (.bool ((xf.why : Int) == 2)))) ?_;clear F ac;intro ac F
         have h42 : ((xf.why : Int) == 2) = false := by rw [hw1]; rfl
         try rw [h42] at F
         refine Y.p5 F 14 64 false fun ac F=>Y.p2 F 14 64 false fun ac F=>Y.pg F 10 60 false (X.pickF rfl (F.ev 64 (.bool false)) (X.kc (.bool false) rfl)) fun ac F=>Y.pv2 F (X.pickF rfl (F.ev 60 (.bool false)) (F.ev 72 (.bool false))) (fun _ F=>X.notB rfl (F.ev 73 (.bool false)) rfl) ?_;clear F ac;intro ac F
         refine Y.nt F [(2, Vi cost), (3, Vp w.heap.size), (9, .func (.func 87) #[] #[Vp w.heap.size]), (10, .slice oa i oc), (11, Vi ((sumE p E i : Nat) : Int)), (13, Vp w10.heap.size), (26, .slice (some pd24) E.length lc9), (27, Vi E.length), (28, Vi i), (74, .bool true)] ?_;clear F ac;intro ac F
         refine Y.cT F 74 ?_
         refine Y.sg F [(6, .bool false), (7, Vi 0)] (Y.pv F (X.assign rfl (X.kc (.bool false) rfl)) fun ac F=>Y.pv F (X.assign rfl (X.kc (Vi 0) rfl)) fun ac F=>Y.fin F) ?_;clear F ac;intro ac F
         refine Y.ret ?_
         refine X.thenR (X.blockR (X.thenR (X.thenR (X.blockR (X.thenR ?_)))))
         exact Y.ret0 (v := .tuple #[.bool false, Vi 0]) F (Y.rs2 F rfl (by kernel_rfl) (by kernel_rfl)) ⟨by rw [prov_no hxf hlf, hck], G⟩
        | true =>
         try rw [h40] at F
         have hlf : lfB p cost (xf.b.xs, xf.why) = true := lf_6 hw1 hlen hho h40
         refine Y.p3 F 10 60 true fun ac F=>Y.ps F 10 60 true fun ac F=>Y.pn F 14 64 fun ac F=>Y.pn F 14 64 fun ac F=>Y.pn F 14 64 fun ac F=>Y.pn F 14 64 fun ac F=>Y.pn F 14 64 fun ac F=>Y.pn F 14 64 fun ac F=>Y.pn F 14 64 fun ac F=>Y.ps F 10 60 true fun ac F=>Y.pv2 F (X.pickT rfl (F.ev 60 (.bool true)) (X.kc (.bool true) rfl)) (fun _ F=>X.notB rfl (F.ev 73 (.bool true)) rfl) ?_;clear F ac;intro ac F
         refine Y.nt F [(2, Vi cost), (3, Vp w.heap.size), (9, .func (.func 87) #[] #[Vp w.heap.size]), (10, .slice oa i oc), (11, Vi ((sumE p E i : Nat) : Int)), (13, Vp w10.heap.size), (26, .slice (some pd24) E.length lc9), (27, Vi E.length), (28, Vi i), (74, .bool false)] ?_;clear F ac;intro ac F
         refine Y.cF F 74 ?_
         refine Y.skip ?_
         refine X.thenN ?_
         exact ⟨GJ_, hlf, F.sub _⟩
      ·clear F ac
       rintro ac w43 ⟨g, hlf, F⟩
       replace G := G.trans g
       replace hC := hC.gr g
       replace hO1 := hO1.thenGr g
       replace hpt := hpt.gr g
       replace hph := hph.gr g
       replace hpb := hpb.gr g
       replace hpl := hpl.gr g
       replace hl := hl.gr g
       replace hRo := hRo.gr g
       replace pI := pI.gr g
       replace hVw33 := hVw33.gr g
       clear g
       refine Y.sl ?_
       refine Y.pv4 F (X.move rfl (F.ev 10 (.slice oa i oc))) (fun _ F=>X.field rfl (F.ev 13 (Vp w10.heap.size)) (X.fld Try.underlying49 rfl (Try.siz34 _) rfl rfl)) (fun _ F=>X.load rfl (F.ev 76 (Vp w10.heap.size)) (X.ld1 (Try.agg34 _) (hC.at 4 rfl))) (fun _ F=>X.bs rfl (X.b1 (F.ev 77 (.slice xf.b.a xf.b.xs.length xf.b.c))) (Try.bs38_1 _ _ _ _)) ?_;clear F ac;intro ac F
       have g := Gr.alloc w43 (.cells #[.slice xf.b.a xf.b.xs.length xf.b.c] 34)
       have hg9 := heap_alloc_new w43 (.cells #[.slice xf.b.a xf.b.xs.length xf.b.c] 34)
       generalize w43.alloc (.cells #[.slice xf.b.a xf.b.xs.length xf.b.c] 34) = w44 at *
       replace G := G.trans g
       replace hC := hC.gr g
       replace hO1 := hO1.thenGr g
       replace hpt := hpt.gr g
       replace hph := hph.gr g
       replace hpb := hpb.gr g
       replace hpl := hpl.gr g
       replace hl := hl.gr g
       replace hRo := hRo.gr g
       replace pI := pI.gr g
       replace hVw33 := hVw33.gr g
       clear g
       refine Y.wpL_plain rfl fun _ hK => wp_pushV Try.underlying38 Try.info34 rfl (by decide) rfl (F.ev 75 (.slice oa i oc)) (F.ev 78 (.slice (some ⟨w43.heap.size, 0, none⟩) 1 1)) hRo (m := 1) (news := [.slice xf.b.a xf.b.xs.length xf.b.c]) rfl (cells_at (vs := [.slice xf.b.a xf.b.xs.length xf.b.c]) hg9) rfl (by omega) (by decide) hO1.size (fun v2 w45 hO3 hon hat => hK _ _ ?_)
       refine Y.pput F rfl ?_;clear F ac;intro ac F
       clear hK hg9
       obtain ⟨oa3, oc3, rfl⟩ := hO3.form
       have hRo3 := hO3
       have hgR : ∀ b, (Value.slice oa i oc).ownBlock = some b → w7.heap.size ≤ b := fun b e => (hRo.ge e).1
       replace G := OnlyG G hon (fun b e => Nat.le_trans hW1 (hgR b e))
       replace hO1 := hO1.step2 hon (fun r e => .inr (hgR r e))
       replace hpt := (hP.t).gr G
       replace hph := (hP.h).gr G
       replace hpb := (hP.b).gr G
       replace hpl := (hP.l).gr G
       replace hl := (hL).gr G
       replace hC := (RCells.cons (hon.cell (hC.at 0 rfl) (fun e => by have h9 := hgR _ e; simp only at h9; omega)) (RCells.cons (hon.cell (hC.at 1 rfl) (fun e => by have h9 := hgR _ e; simp only at h9; omega)) (RCells.cons (hon.cell (hC.at 2 rfl) (fun e => by have h9 := hgR _ e; simp only at h9; omega)) (RCells.cons (hon.cell (hC.at 3 rfl) (fun e => by have h9 := hgR _ e; simp only at h9; omega)) (RCells.cons (hon.cell (hC.at 4 rfl) (fun e => by have h9 := hgL0 _ e; simp only at h9; omega)) (RCells.cons (hon.cell (hC.at 5 rfl) (fun e => by have h9 := hgL0 _ e; simp only at h9; omega)) (RCells.nil _)))))))
       clear hon hRo
       refine Y.pv F (X.assign rfl (F.ev 79 (.slice oa3 (i + 1) oc3))) ?_;clear F ac;intro ac F
       refine Y.nt F [(2, Vi cost), (3, Vp w.heap.size), (9, .func (.func 87) #[] #[Vp w.heap.size]), (10, .slice oa3 (i + 1) oc3), (11, Vi ((sumE p E i : Nat) : Int)), (13, Vp w10.heap.size), (26, .slice (some pd24) E.length lc9), (27, Vi E.length), (28, Vi i)] ?_;clear F ac;intro ac F
       refine Y.lit (by kernel_rfl) ?_
       refine Y.pv4 F (X.move rfl (F.ev 11 (Vi ((sumE p E i : Nat) : Int)))) (fun _ F=>X.move rfl (F.ev 9 (.func (.func 87) #[] #[Vp w.heap.size]))) (fun _ F=>X.field rfl (F.ev 3 (Vp w.heap.size)) (X.fld Try.underlying27 rfl (Try.siz22 _) rfl rfl)) (fun _ F=>X.load rfl (F.ev 82 (Vp w.heap.size)) (X.ld1 (Try.agg22 _) (hC.at 0 rfl))) fun ac F=>Y.pv4 F (X.len1 Try.underlying22 rfl (F.ev 83 (.slice ta p.nt tc))) (fun _ F=>X.field rfl (F.ev 13 (Vp w10.heap.size)) (X.fld Try.underlying49 rfl (Try.siz34 _) rfl rfl)) (fun _ F=>X.load rfl (F.ev 85 (Vp w10.heap.size)) (X.ld1 (Try.agg34 _) (hC.at 4 rfl))) (fun _ F=>X.len1 Try.underlying34 rfl (F.ev 86 (.slice xf.b.a xf.b.xs.length xf.b.c))) fun ac F=>Y.pv F (X.binop rfl (F.ev 84 (Vi p.nt)) (F.ev 87 (Vi xf.b.xs.length)) (X.subI Try.underlying3 rfl (by omega) (by omega))) ?_;clear F ac;intro ac F
       refine Y.pcall F (X.w0 rfl) rfl (X.enter (F := 87) rfl (F.ev 81 (.func (.func 87) #[] #[Vp w.heap.size])) (X.a1 (F.ev 88 (Vi ((p.nt : Int) - xf.b.xs.length)))) (enters_of Try.func87 (by kernel_rfl) rfl _)) (by have hq := plansC_any p ta ha ba la tc hc bc lc w.heap.size (p.nt - xf.b.xs.length) w45 (hP.gr G) ((RCells.cons (hC.at 0 rfl) (RCells.cons (hC.at 1 rfl) (RCells.cons (hC.at 2 rfl) (RCells.cons (hC.at 3 rfl) (RCells.nil _)))))) hp.h6 (by have := hp.t10; omega); rw [show ((p.nt - xf.b.xs.length : Nat) : Int) = (p.nt : Int) - xf.b.xs.length by omega] at hq; exact hq) ?_
       clear F ac
       rintro e w46 ⟨rfl, g⟩
       refine ⟨_, rfl, ?_⟩
       intro ac F
       replace G := G.trans g
       replace hC := hC.gr g
       replace hO1 := hO1.thenGr g
       replace hpt := hpt.gr g
       replace hph := hph.gr g
       replace hpb := hpb.gr g
       replace hpl := hpl.gr g
       replace hl := hl.gr g
       replace hRo3 := hRo3.gr g
       clear g
       refine Y.pv2 F (X.binop rfl (F.ev 80 (Vi ((sumE p E i : Nat) : Int))) (F.ev 89 (Vi ((p.nh ^ (p.nt - xf.b.xs.length) : Nat) : Int))) (X.addI Try.underlying3 rfl (by omega) (by omega))) (fun _ F=>X.assign rfl (F.ev 90 (Vi ((((sumE p E i : Nat) : Int) : Int) + ((p.nh ^ (p.nt - xf.b.xs.length) : Nat) : Int))))) ?_;clear F ac;intro ac F
       refine Y.nil ?_
       replace F : Fr ac 140 [(2, Vi cost), (3, Vp w.heap.size), (9, .func (.func 87) #[] #[Vp w.heap.size]), (10, .slice oa3 (i + 1) oc3), (11, Vi ((((sumE p E i : Nat) : Int) : Int) + ((p.nh ^ (p.nt - xf.b.xs.length) : Nat) : Int))), (26, .slice (some pd24) E.length lc9), (27, Vi E.length), (28, Vi i)] := F.sub _
       refine X.blockN (X.thenN ?_)
       refine Y.lg F [(2, Vi cost), (3, Vp w.heap.size), (9, .func (.func 87) #[] #[Vp w.heap.size]), (10, .slice oa3 (i + 1) oc3), (11, Vi ((((sumE p E i : Nat) : Int) : Int) + ((p.nh ^ (p.nt - xf.b.xs.length) : Nat) : Int))), (26, .slice (some pd24) E.length lc9), (27, Vi E.length), (28, Vi ((i : Int) + 1))] (by
        refine Y.pv F (X.binop rfl (F.ev 28 (Vi i)) (X.kc (Vi 1) rfl) (X.addI Try.underlying3 rfl (by omega) (by omega))) fun ac F=>?_
        refine Y.pv F (X.move rfl (F.ev 91 (Vi ((i : Int) + 1)))) fun ac F=>?_
        exact Y.fin F) ?_;clear F ac;intro ac F
       refine ⟨_, ?_, i + 1, oa3, oc3, rfl, hO1, by omega, by rw [take_s hxf, List.map_append, rowsV_app]; exact hRo3, okE_s hok hxf hlf, (by rw [sumE_s hxf, Int.natCast_add]; exact F.sub _)⟩
       omega
    | true =>
     try rw [h27] at F
     have h27p : ((p.nt : Int) < xf.b.xs.length) := of_decide_eq_true h27
     have hlf : lfB p cost (xf.b.xs, xf.why) = false := lf_1 (by omega)
     refine Y.p5 F 7 39 true fun ac F=>Y.pv F (X.pickT rfl (F.ev 39 (.bool true)) (X.kc (.bool true) rfl)) ?_;clear F ac;intro ac F
     refine Y.nt F [(2, Vi cost), (3, Vp w.heap.size), (9, .func (.func 87) #[] #[Vp w.heap.size]), (10, .slice oa i oc), (11, Vi ((sumE p E i : Nat) : Int)), (13, Vp w10.heap.size), (26, .slice (some pd24) E.length lc9), (27, Vi E.length), (28, Vi i), (45, .bool true)] ?_;clear F ac;intro ac F
     refine Y.cT F 45 ?_
     refine Y.sg F [(6, .bool false), (7, Vi 0)] (Y.pv F (X.assign rfl (X.kc (.bool false) rfl)) fun ac F=>Y.pv F (X.assign rfl (X.kc (Vi 0) rfl)) fun ac F=>Y.fin F) ?_;clear F ac;intro ac F
     refine Y.ret ?_
     refine X.thenR (X.blockR (X.thenR (X.thenR (X.blockR (X.thenR ?_)))))
     exact Y.ret0 (v := .tuple #[.bool false, Vi 0]) F (Y.rs2 F rfl (by kernel_rfl) (by kernel_rfl)) ⟨by rw [prov_no hxf hlf, hck], G⟩
  | true =>
   try rw [h9] at F
   have h9p : ((5000 : Int) < E.length) := of_decide_eq_true h9
   refine Y.cT F 24 ?_
   refine Y.sg F [(6, .bool false), (7, Vi 2)] (Y.pv F (X.assign rfl (X.kc (.bool false) rfl)) fun ac F=>Y.pv F (X.assign rfl (X.kc (Vi 2) rfl)) fun ac F=>Y.fin F) ?_;clear F ac;intro ac F
   refine Y.ret ?_
   refine X.thenR ?_
   exfalso; omega
 | true =>
  try rw [h8] at F
  have h8p : ¬ (chkE p : Int) = 0 := by simpa using h8
  refine Y.cT F 20 ?_
  refine Y.sg F [(6, .bool false), (7, Vi (chkE p))] (Y.pv F (X.move rfl (F.ev 8 (Vi (chkE p)))) fun ac F=>Y.pv F (X.assign rfl (X.kc (.bool false) rfl)) fun ac F=>Y.pv F (X.assign rfl (F.ev 21 (Vi (chkE p)))) fun ac F=>Y.fin F) ?_;clear F ac;intro ac F
  refine Y.ret ?_
  refine X.thenR ?_
  exact Y.ret0 (v := .tuple #[.bool false, Vi (chkE p)]) F (Y.rs2 F rfl (by kernel_rfl) (by kernel_rfl)) ⟨by rw [prov_0 (by omega)], G⟩
end
section
set_option linter.unusedVariables false
open Go.RowKit
/-- a region that makes some values (pre), appends to an older row (c), and moves this (d) -/
structure RQ (w : World) (pre : List Nat) (c d : Nat) (Tp : Nat → Value → World → Prop) (Tc : Value → World → Prop) (done : Nat → Bool) (u : Nat → Value) (W : World) : Prop where
  g : done c = false → Gr w W
  gp : ∀ i, i ∈ pre → done i = true → done c = false → Tp i (u i) W
  gc : done c = true → Tc (u c) W
  gd : done d = true → u d = u c
section
variable {w W W' : World} {pre : List Nat} {c d i : Nat} {Tp : Nat → Value → World → Prop} {Tc : Value → World → Prop} {done : Nat → Bool} {u : Nat → Value} {v : Value}
theorem RQ.start {u : Nat → Value} (g : Gr w W) : RQ w pre c d Tp Tc (fun _ => false) u W := ⟨fun _ => g, fun i _ h => by simp at h, fun h => by simp at h, fun h => by simp at h⟩
theorem RQ.step (h : RQ w pre c d Tp Tc done u W) (hu : ∀ i, UpV (Tp i)) (hc : done c = false) (hd : done d = false) (g : Gr W W') (hi : (i == c || i == d) = false) (ht : i ∈ pre → Tp i v W') : RQ w pre c d Tp Tc (upd done i) (fun j => if j = i then v else u j) W' := by
  simp only [Bool.or_eq_false_iff, beq_eq_false_iff_ne] at hi
  refine ⟨fun _ => (h.g hc).trans g, fun k hk k0 k1 => ?_, fun k0 => ?_, fun k0 => ?_⟩
  · by_cases e : k = i
    · subst e; simp only [if_true]; exact ht hk
    · rw [upd_ne e] at k0
      simp only [if_neg e]
      exact hu k _ _ _ (h.gp k hk k0 hc) g
  · rw [upd_ne (Ne.symm hi.1), hc] at k0; cases k0
  · rw [upd_ne (Ne.symm hi.2), hd] at k0; cases k0
theorem RQ.quiet (h : RQ w pre c d Tp Tc done u W) (hu : ∀ i, UpV (Tp i)) (hc : done c = false) (hd : done d = false) (g : Gr W W') (hi : (pre.contains i || i == c || i == d) = false) : RQ w pre c d Tp Tc (upd done i) (fun j => if j = i then v else u j) W' := by
  simp only [Bool.or_eq_false_iff] at hi
  refine h.step hu hc hd g (by simp only [Bool.or_eq_false_iff]; exact ⟨hi.1.2, hi.2⟩) (fun hp => ?_)
  have := hi.1.1
  rw [List.contains_iff_mem.2 hp] at this; cases this
theorem RQ.sc (hn : (pre.contains c || c == d) = false) (hd : done d = false) (ht : Tc v W') : RQ w pre c d Tp Tc (upd done c) (fun j => if j = c then v else u j) W' := by
  simp only [Bool.or_eq_false_iff, beq_eq_false_iff_ne] at hn
  refine ⟨fun k => ?_, fun k hk k0 k1 => ?_, fun _ => by simpa using ht, fun k => ?_⟩
  · rw [upd_self] at k; cases k
  · rw [upd_self] at k1; cases k1
  · rw [upd_ne (Ne.symm hn.2), hd] at k; cases k
theorem RQ.sd (hn : (pre.contains d || c == d) = false) (hc : done c = true) (h : RQ w pre c d Tp Tc done u W) : RQ w pre c d Tp Tc (upd done d) (fun j => if j = d then u c else u j) W := by
  simp only [Bool.or_eq_false_iff, beq_eq_false_iff_ne] at hn
  refine ⟨fun k => ?_, fun k hk k0 k1 => ?_, fun _ => ?_, fun _ => ?_⟩
  · rw [upd_ne hn.2, hc] at k; cases k
  · rw [upd_ne hn.2, hc] at k1; cases k1
  · simpa [hn.2] using h.gc hc
  · simp [hn.2]
end
end
section
open Go.RowKit
end
end Go.Proofs.Ytodedneanlekdaa
