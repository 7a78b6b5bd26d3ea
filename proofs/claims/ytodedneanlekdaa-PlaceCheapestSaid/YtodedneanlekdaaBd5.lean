/- Contract: the reference's Check. -/
import Derived.Test.YtodedneanlekdaaBd4
import Derived.Test.YtodedneanlekdaaBd3
namespace Go.Proofs.Ytodedneanlekdaa
set_option linter.unusedSimpArgs false
set_option linter.unusedVariables false
open Go.RowKit

theorem task_eq2 (p : Pb) (i : Nat) : taskB p i = (!twiceB p.tn i && nameB (p.tn i) && amtB (p.tv i 1) && amtB (p.tv i 2) && levB (p.tv i 3)) := by
  unfold taskB; rw [Bool.and_comm (nameB (p.tn i)) (!twiceB p.tn i)]
theorem host_eq2 (p : Pb) (i : Nat) : hostB p i = (!twiceB p.hn i && nameB (p.hn i) && amtB (p.hv i 1) && amtB (p.hv i 2) && amtB (p.hv i 4) && amtB (p.hv i 5) && levB (p.hv i 3)) := by
  unfold hostB; rw [Bool.and_comm (nameB (p.hn i)) (!twiceB p.hn i)]
theorem twice_some {f : Nat → ByteArray} {i q : Nat} (hq : q < i) (h : (f q).toList = (f i).toList) : twiceB f i = true := by
  unfold twiceB; rw [allN_false hq (by simp [h])]; rfl
theorem twice_none {f : Nat → ByteArray} {i : Nat} (h : allN (fun q => !((f q).toList == (f i).toList)) i = true) : twiceB f i = false := by
  unfold twiceB; rw [h]; rfl
theorem bond_eq3 (p : Pb) (j : Nat) : bondB p j = !(decide (p.bv j 0 < 1) || decide (5 < p.bv j 0) || !isT p (p.bv j 1) || ((p.bv j 0 == 1 || p.bv j 0 == 2 || p.bv j 0 == 3) && (!isT p (p.bv j 2) || p.bv j 1 == p.bv j 2)) || (!(p.bv j 0 == 1 || p.bv j 0 == 2 || p.bv j 0 == 3) && !isH p (p.bv j 2))) := by
  unfold bondB
  by_cases h1 : p.bv j 0 < 1
  · have e1 : ¬ (p.bv j 0 = 1 ∨ p.bv j 0 = 2 ∨ p.bv j 0 = 3) := by omega
    have e2 : ¬ (p.bv j 0 = 4 ∨ p.bv j 0 = 5) := by omega
    simp [h1, e1, e2]
  · by_cases h5 : 5 < p.bv j 0
    · have e1 : ¬ (p.bv j 0 = 1 ∨ p.bv j 0 = 2 ∨ p.bv j 0 = 3) := by omega
      have e2 : ¬ (p.bv j 0 = 4 ∨ p.bv j 0 = 5) := by omega
      simp [h1, h5, e1, e2]
    · by_cases h3 : p.bv j 0 = 1 ∨ p.bv j 0 = 2 ∨ p.bv j 0 = 3
      · have e3 : (p.bv j 0 == 1 || p.bv j 0 == 2 || p.bv j 0 == 3) = true := by simpa [or_assoc] using h3
        rw [if_pos h3, e3]
        simp only [h1, h5, decide_false, Bool.false_or, Bool.true_and, Bool.not_true, Bool.false_and, Bool.or_false, Bool.not_or, Bool.not_not]
        congr 1
      · have e3 : (p.bv j 0 == 1 || p.bv j 0 == 2 || p.bv j 0 == 3) = false := by simpa [and_assoc] using h3
        have e4 : p.bv j 0 = 4 ∨ p.bv j 0 = 5 := by omega
        rw [if_neg h3, if_pos e4, e3]
        simp only [h1, h5, decide_false, Bool.false_or, Bool.false_and, Bool.or_false, Bool.not_or, Bool.not_not, Bool.not_false, Bool.true_and]
set_option maxRecDepth 100000 in
set_option maxHeartbeats 400000 in
theorem task_any (p : Pb) (ta ha ba la : Option Addr) (tc hc bc lc : Nat) (i : Nat) (w : World) (hP : PbAt w p ta ha ba la tc hc bc lc) (hi : i < p.nt) :
  Calls Try.prog 59 #[.agg #[.slice ta p.nt tc, .slice ha p.nh hc, .slice ba p.nb bc, .slice la p.nl lc], Vi i] w fun e w' => e = .returned (.bool (taskB p i)) ∧ Gr w w' := by
 have G := Gr.refl w
 have hpt := hP.t
 have hph := hP.h
 have hpb := hP.b
 have hpl := hP.l
 have hplen := hP.len
 obtain ⟨hn1, hn2, hn3, hn4⟩ := hplen
 have hcp1 := hpt.cap
 have hcp2 := hph.cap
 have hcp3 := hpb.cap
 have hcp4 := hpl.cap
 refine Y.calls 44 Try.func59 rfl rfl ?_
 intro ac F0
 have F : Fr ac 44 [(0, .agg #[.slice ta p.nt tc, .slice ha p.nh hc, .slice ba p.nb bc, .slice la p.nl lc]), (1, Vi i)] := F0.sub _
 clear F0
 refine Y.sl ?_
 refine Y.pv F (X.box rfl (F.ev 0 (.agg #[.slice ta p.nt tc, .slice ha p.nh hc, .slice ba p.nb bc, .slice la p.nl lc])) X.bx) ?_;clear F ac;intro ac F
 obtain ⟨w3, hw_, g, hb, hbl, hC2⟩ := Y.bxd (RCells.nil w) #[.slice ta p.nt tc, .slice ha p.nh hc, .slice ba p.nb bc, .slice la p.nl lc] 27;rw [hw_];clear hw_
 replace G := G.trans g
 have hC := hC2
 clear hC2
 replace hpt := hpt.gr g
 replace hph := hph.gr g
 replace hpb := hpb.gr g
 replace hpl := hpl.gr g
 clear g hb hbl
 refine Y.pv F (X.assign rfl (X.kc (.bool false) rfl)) ?_;clear F ac;intro ac F
 refine Y.nt F [(1, Vi i), (2, Vp w.heap.size)] ?_;clear F ac;intro ac F
 refine Y.sl ?_
 refine Y.pv3 F (X.field rfl (F.ev 2 (Vp w.heap.size)) (X.fld Try.underlying27 rfl (Try.siz22 _) rfl rfl)) (fun _ F=>X.load rfl (F.ev 7 (Vp w.heap.size)) (X.ld1 (Try.agg22 _) (hC.at 0 rfl))) (fun _ F=>X.move rfl (F.ev 1 (Vi i))) ?_;clear F ac;intro ac F
 obtain ⟨pd4, pe4, -, pc4⟩ := hpt.at (j := i) (by omega)
 subst pe4
 replace hC := hC.append (show RCells w3 (Y.cs (pd4.add (i * 4)) [.string (p.tn i), Vi (p.tv i 1), Vi (p.tv i 2), Vi (p.tv i 3)]) from (RCells.cons (pc4 0 (by decide)) (RCells.cons (pc4 1 (by decide)) (RCells.cons (pc4 2 (by decide)) (RCells.cons (pc4 3 (by decide)) (RCells.nil _))))))
 clear pc4
 refine Y.pv3 F (X.index rfl (F.ev 8 (.slice (some pd4) p.nt tc)) (F.ev 9 (Vi i)) (X.idx (k := i) Try.underlying22 (Try.siz74 _) (by omega) (by omega) rfl)) (fun _ F=>X.load rfl (F.ev 10 (.pointer (some (pd4.add (i * 4))))) (X.ldN (Try.agg74 _) (Try.siz74 _) (Y.atz (pd4.add (i * 4)) (Y.AtFrom.cons (hC.at 4 rfl) (Y.AtFrom.cons (hC.at 5 rfl) (Y.AtFrom.cons (hC.at 6 rfl) (Y.AtFrom.cons (hC.at 7 rfl) (Y.AtFrom.nil _ _ _)))))))) (fun _ F=>Y.al rfl (Try.new74 _)) fun ac F=>Y.punit F (X.w0 rfl) rfl (X.store rfl (F.ev 5 (Vp w3.heap.size)) (F.ev 11 (.agg #[.string (p.tn i), Vi (p.tv i 1), Vi (p.tv i 2), Vi (p.tv i 3)])) (Y.stNew [.string (p.tn i), Vi (p.tv i 1), Vi (p.tv i 2), Vi (p.tv i 3)] [(.string ByteArray.empty), Vi 0, Vi 0, Vi 0] (Try.siz74 _) rfl rfl)) ?_;clear F ac;intro ac F
 obtain ⟨w5, hw_, g, hb, hbl, hC2⟩ := Y.bxd hC #[.string (p.tn i), Vi (p.tv i 1), Vi (p.tv i 2), Vi (p.tv i 3)] 74;rw [hw_];clear hw_
 replace G := G.trans g
 replace hC := hC2
 clear hC2
 replace hpt := hpt.gr g
 replace hph := hph.gr g
 replace hpb := hpb.gr g
 replace hpl := hpl.gr g
 clear g hb hbl
 refine Y.nt F [(1, Vi i), (2, Vp w.heap.size), (5, Vp w3.heap.size)] ?_;clear F ac;intro ac F
 refine Y.seq ?_
 refine Y.sg F [(1, Vi i), (2, Vp w.heap.size), (5, Vp w3.heap.size), (6, Vi 0)] (Y.pv F (X.assign rfl (X.kc (Vi 0) rfl)) fun ac F=>Y.fin F) ?_;clear F ac;intro ac F
 refine Y.block ?_
 have hptB := hpt
 have hphB := hph
 have hpbB := hpb
 have hplB := hpl
 have hCB := hC
 have GB := G
 refine Y.loop (fun me_ ac wr => ∃ (q : Nat), me_ = i - q ∧ Gr w5 wr ∧ q ≤ i ∧ allN (fun q => !((p.tn q).toList == (p.tn i).toList)) q = true ∧ Fr ac 44 [(1, Vi i), (2, Vp w.heap.size), (5, Vp w3.heap.size), (6, Vi q)]) _ ⟨0, rfl, Gr.refl _, Nat.zero_le _, rfl, F.sub _⟩ ?_
 clear F
 intro me_ ac w6 hI
 obtain ⟨q, rfl, gr, hq0, hok, F⟩ := hI
 replace G := GB.trans gr
 replace hC := hCB.gr gr
 replace hpt := hptB.gr gr
 replace hph := hphB.gr gr
 replace hpb := hpbB.gr gr
 replace hpl := hplB.gr gr
 have GB_ := gr
 clear gr
 refine Y.seq ?_
 refine Y.sg F [(1, Vi i), (2, Vp w.heap.size), (5, Vp w3.heap.size), (6, Vi q), (14, .bool (decide ((q : Int) < i)))] (Y.pv F (X.move rfl (F.ev 6 (Vi q))) fun ac F=>Y.pv F (X.move rfl (F.ev 1 (Vi i))) fun ac F=>Y.pv F (X.binop rfl (F.ev 12 (Vi q)) (F.ev 13 (Vi i)) (X.lssI Try.underlying3 rfl)) fun ac F=>Y.fin F) ?_;clear F ac;intro ac F
 cases h7 : decide ((q : Int) < i) with
 | false =>
  try rw [h7] at F
  have h7p : ¬ ((q : Int) < i) := of_decide_eq_false h7
  obtain rfl : i = q := by omega
  have htw := twice_none hok
  refine Y.cF F 14 ?_
  refine Y.exit ?_
  refine X.thenX (X.thenX (X.blockX (X.thenN ?_)))
  refine Y.sl ?_
  refine Y.pv2 F (X.field rfl (F.ev 5 (Vp w3.heap.size)) (X.fld Try.underlying74 rfl (Try.siz9 _) rfl rfl)) (fun _ F=>X.load rfl (F.ev 26 (Vp w3.heap.size)) (X.ld1 (Try.agg9 _) (hC.at 8 rfl))) fun ac F=>Y.pc F 97 (X.a1 (F.ev 27 (.string (p.tn i)))) Try.func97 (named2_any (p.tn i) w6 (hP.s1 i (by omega))) ?_
  clear F ac
  rintro e w' ⟨rfl, hw_⟩
  obtain rfl : w6 = w' := hw_.symm
  clear hw_
  refine ⟨_, rfl, ?_⟩
  intro ac F
  refine Y.pv F (X.move rfl (F.ev 28 (.bool (nameB (p.tn i))))) ?_;clear F ac;intro ac F
  cases h8 : nameB (p.tn i) with
  | false =>
   try rw [h8] at F
   refine Y.p3 F 3 29 false fun ac F=>Y.pv2 F (X.pickF rfl (F.ev 29 (.bool false)) (X.kc (.bool false) rfl)) (fun _ F=>X.move rfl (F.ev 33 (.bool false))) fun ac F=>Y.p3 F 8 34 false fun ac F=>Y.pv2 F (X.pickF rfl (F.ev 34 (.bool false)) (X.kc (.bool false) rfl)) (fun _ F=>X.move rfl (F.ev 38 (.bool false))) fun ac F=>Y.p3 F 13 39 false fun ac F=>Y.pv2 F (X.pickF rfl (F.ev 39 (.bool false)) (X.kc (.bool false) rfl)) (fun _ F=>X.assign rfl (F.ev 43 (.bool false))) ?_;clear F ac;intro ac F
   refine Y.nt F [(4, .bool false)] ?_;clear F ac;intro ac F
   refine Y.ret ?_
   exact Y.ret0 (v := .bool false) F (Y.r1 F) ⟨by rw [task_eq2, htw]; simp [h8], G⟩
  | true =>
   try rw [h8] at F
   refine Y.pg F 3 29 true (X.field rfl (F.ev 5 (Vp w3.heap.size)) (X.fld Try.underlying74 rfl (Try.siz3 _) rfl rfl)) fun ac F=>Y.pg F 3 29 true (X.load rfl (F.ev 30 (.pointer (some ⟨w3.heap.size, 1, none⟩))) (X.ld1 (Try.agg3 _) (hC.at 9 rfl))) ?_;clear F ac;intro ac F
   refine Y.pcall F (X.w1 rfl (F.yl (j := 3) (d := 29) (b := true) rfl (by kernel_rfl))) rfl (X.enter (F := 63) rfl (X.kc (.func (.func 63) #[] #[]) rfl) (X.a1 (F.ev 31 (Vi (p.tv i 1)))) (enters_of Try.func63 (by kernel_rfl) rfl _)) (amount_any (p.tv i 1) w6) ?_
   clear F ac
   rintro e w' ⟨rfl, hw_⟩
   obtain rfl : w6 = w' := hw_.symm
   clear hw_
   refine ⟨_, rfl, ?_⟩
   intro ac F
   refine Y.pv2 F (X.pickT rfl (F.ev 29 (.bool true)) (F.ev 32 (.bool (amtB (p.tv i 1))))) (fun _ F=>X.move rfl (F.ev 33 (.bool (amtB (p.tv i 1))))) ?_;clear F ac;intro ac F
   cases h9 : amtB (p.tv i 1) with
   | false =>
    try rw [h9] at F
    refine Y.p3 F 8 34 false fun ac F=>Y.pv2 F (X.pickF rfl (F.ev 34 (.bool false)) (X.kc (.bool false) rfl)) (fun _ F=>X.move rfl (F.ev 38 (.bool false))) fun ac F=>Y.p3 F 13 39 false fun ac F=>Y.pv2 F (X.pickF rfl (F.ev 39 (.bool false)) (X.kc (.bool false) rfl)) (fun _ F=>X.assign rfl (F.ev 43 (.bool false))) ?_;clear F ac;intro ac F
    refine Y.nt F [(4, .bool false)] ?_;clear F ac;intro ac F
    refine Y.ret ?_
    exact Y.ret0 (v := .bool false) F (Y.r1 F) ⟨by rw [task_eq2, htw]; simp [h9, h8], G⟩
   | true =>
    try rw [h9] at F
    refine Y.pg F 8 34 true (X.field rfl (F.ev 5 (Vp w3.heap.size)) (X.fld Try.underlying74 rfl (Try.siz3 _) rfl rfl)) fun ac F=>Y.pg F 8 34 true (X.load rfl (F.ev 35 (.pointer (some ⟨w3.heap.size, 2, none⟩))) (X.ld1 (Try.agg3 _) (hC.at 10 rfl))) ?_;clear F ac;intro ac F
    refine Y.pcall F (X.w1 rfl (F.yl (j := 8) (d := 34) (b := true) rfl (by kernel_rfl))) rfl (X.enter (F := 63) rfl (X.kc (.func (.func 63) #[] #[]) rfl) (X.a1 (F.ev 36 (Vi (p.tv i 2)))) (enters_of Try.func63 (by kernel_rfl) rfl _)) (amount_any (p.tv i 2) w6) ?_
    clear F ac
    rintro e w' ⟨rfl, hw_⟩
    obtain rfl : w6 = w' := hw_.symm
    clear hw_
    refine ⟨_, rfl, ?_⟩
    intro ac F
    refine Y.pv2 F (X.pickT rfl (F.ev 34 (.bool true)) (F.ev 37 (.bool (amtB (p.tv i 2))))) (fun _ F=>X.move rfl (F.ev 38 (.bool (amtB (p.tv i 2))))) ?_;clear F ac;intro ac F
    cases h10 : amtB (p.tv i 2) with
    | false =>
     try rw [h10] at F
     refine Y.p3 F 13 39 false fun ac F=>Y.pv2 F (X.pickF rfl (F.ev 39 (.bool false)) (X.kc (.bool false) rfl)) (fun _ F=>X.assign rfl (F.ev 43 (.bool false))) ?_;clear F ac;intro ac F
     refine Y.nt F [(4, .bool false)] ?_;clear F ac;intro ac F
     refine Y.ret ?_
     exact Y.ret0 (v := .bool false) F (Y.r1 F) ⟨by rw [task_eq2, htw]; simp [h9, h10, h8], G⟩
    | true =>
     try rw [h10] at F
     refine Y.pg F 13 39 true (X.field rfl (F.ev 5 (Vp w3.heap.size)) (X.fld Try.underlying74 rfl (Try.siz3 _) rfl rfl)) fun ac F=>Y.pg F 13 39 true (X.load rfl (F.ev 40 (.pointer (some ⟨w3.heap.size, 3, none⟩))) (X.ld1 (Try.agg3 _) (hC.at 11 rfl))) ?_;clear F ac;intro ac F
     refine Y.pcall F (X.w1 rfl (F.yl (j := 13) (d := 39) (b := true) rfl (by kernel_rfl))) rfl (X.enter (F := 98) rfl (X.kc (.func (.func 98) #[] #[]) rfl) (X.a1 (F.ev 41 (Vi (p.tv i 3)))) (enters_of Try.func98 (by kernel_rfl) rfl _)) (level_any (p.tv i 3) w6) ?_
     clear F ac
     rintro e w' ⟨rfl, hw_⟩
     obtain rfl : w6 = w' := hw_.symm
     clear hw_
     refine ⟨_, rfl, ?_⟩
     intro ac F
     refine Y.pv2 F (X.pickT rfl (F.ev 39 (.bool true)) (F.ev 42 (.bool (levB (p.tv i 3))))) (fun _ F=>X.assign rfl (F.ev 43 (.bool (levB (p.tv i 3))))) ?_;clear F ac;intro ac F
     refine Y.nt F [(4, .bool (levB (p.tv i 3)))] ?_;clear F ac;intro ac F
     refine Y.ret ?_
     exact Y.ret0 (v := .bool (levB (p.tv i 3))) F (Y.r1 F) ⟨by rw [task_eq2, htw]; simp [h9, h10, h8], G⟩
 | true =>
  try rw [h7] at F
  have h7p : ((q : Int) < i) := of_decide_eq_true h7
  have hq : q < i := by omega
  refine Y.cT F 14 ?_
  refine Y.skip ?_
  refine X.thenN ?_
  refine Y.seq ?_
  refine Y.block ?_
  refine Y.seq ?_
  obtain ⟨pd11, pe11, -, pc11⟩ := hpt.at (j := q) (by omega)
  injection pe11 with pe11
  subst pe11
  replace hC := hC.append (show RCells w6 (Y.cs (pd4.add (q * 4)) [.string (p.tn q), Vi (p.tv q 1), Vi (p.tv q 2), Vi (p.tv q 3)]) from (RCells.cons (pc11 0 (by decide)) (RCells.cons (pc11 1 (by decide)) (RCells.cons (pc11 2 (by decide)) (RCells.cons (pc11 3 (by decide)) (RCells.nil _))))))
  clear pc11
  refine Y.region F [some (Vp w.heap.size), some (.slice (some pd4) p.nt tc), some (Vi q), some (.pointer (some (pd4.add (q * 4)))), some (.pointer (some (pd4.add (q * 4)))), some (.string (p.tn q)), some (Vp w3.heap.size), some (.string (p.tn i)), some (.bool ((p.tn q).toList == (p.tn i).toList))] [] rfl ⟨by kernel_rfl, of_decide_eq_true (by kernel_rfl), by kernel_rfl, by kernel_rfl, by kernel_rfl⟩ ⟨?_, ?_, ?_, ?_, ?_, ?_, ?_, ?_, ?_, trivial⟩ ?_
  ·intro ac done u W Sx hR
   exact X.vl (X.field rfl (Sx.ev 2 (Vp w.heap.size)) (X.fld Try.underlying27 rfl (Try.siz22 _) rfl rfl)) hR.st0
  ·intro ac done u W Sx hR
   have g : Gr w6 W := hR.1
   exact X.vl (X.load rfl (Sx.ev 17 (Vp w.heap.size)) (X.ld1 (Try.agg22 _) ((hC.gr g).at 0 rfl))) hR.st0
  ·intro ac done u W Sx hR
   exact X.vl (X.move rfl (Sx.ev 6 (Vi q))) hR.st0
  ·intro ac done u W Sx hR
   exact X.vl (X.index rfl (Sx.ev 18 (.slice (some pd4) p.nt tc)) (Sx.ev 19 (Vi q)) (X.idx (k := q) Try.underlying22 (Try.siz74 _) (by omega) (by omega) rfl)) hR.st0
  ·intro ac done u W Sx hR
   exact X.vl (X.field rfl (Sx.ev 20 (.pointer (some (pd4.add (q * 4))))) (X.fld Try.underlying74 rfl (Try.siz9 _) rfl rfl)) hR.st0
  ·intro ac done u W Sx hR
   have g : Gr w6 W := hR.1
   exact X.vl (X.load rfl (Sx.ev 21 (.pointer (some (pd4.add (q * 4))))) (X.ld1 (Try.agg9 _) ((hC.gr g).at 12 rfl))) hR.st0
  ·intro ac done u W Sx hR
   exact X.vl (X.field rfl (Sx.ev 5 (Vp w3.heap.size)) (X.fld Try.underlying74 rfl (Try.siz9 _) rfl rfl)) hR.st0
  ·intro ac done u W Sx hR
   have g : Gr w6 W := hR.1
   exact X.vl (X.load rfl (Sx.ev 23 (Vp w3.heap.size)) (X.ld1 (Try.agg9 _) ((hC.gr g).at 8 rfl))) hR.st0
  ·intro ac done u W Sx hR
   exact X.vl (X.binop rfl (Sx.ev 22 (.string (p.tn q))) (Sx.ev 24 (.string (p.tn i))) (Y.eqlS Try.underlying9 rfl)) hR.st0
  intro ac u w12 hs hd hl ho hR
  have g : Gr w6 w12 := hR.1
  replace F : Fr ac 44 [(1, Vi i), (2, Vp w.heap.size), (5, Vp w3.heap.size), (6, Vi q), (25, .bool ((p.tn q).toList == (p.tn i).toList))] := X.fr hs hd hl _ (by kernel_rfl)
  clear hs hd hl ho hR
  replace G := G.trans g
  replace hC := hC.gr g
  replace GB_ := GB_.trans g
  replace hpt := hpt.gr g
  replace hph := hph.gr g
  replace hpb := hpb.gr g
  replace hpl := hpl.gr g
  clear g
  refine X.thenN ?_
  cases h13 : ((p.tn q).toList == (p.tn i).toList) with
  | false =>
   try rw [h13] at F
   have h13p : ¬ (p.tn q).toList = (p.tn i).toList := by simpa using h13
   refine Y.cF F 25 ?_
   refine Y.skip ?_
   refine X.blockN (X.thenN ?_)
   refine Y.lg F [(1, Vi i), (2, Vp w.heap.size), (5, Vp w3.heap.size), (6, Vi ((q : Int) + 1))] (by
    refine Y.pv F (X.move rfl (F.ev 6 (Vi q))) fun ac F=>?_
    refine Y.pv F (X.binop rfl (F.ev 15 (Vi q)) (X.kc (Vi 1) rfl) (X.addI Try.underlying3 rfl (by omega) (by omega))) fun ac F=>?_
    refine Y.pv F (X.assign rfl (F.ev 16 (Vi ((q : Int) + 1)))) fun ac F=>?_
    exact Y.fin F) ?_;clear F ac;intro ac F
   refine ⟨_, ?_, q + 1, rfl, GB_, by omega, allN_succ hok (by simp [h13p]), F.sub _⟩
   omega
  | true =>
   try rw [h13] at F
   have h13p : (p.tn q).toList = (p.tn i).toList := by simpa using h13
   refine Y.cT F 25 ?_
   refine Y.sk F 4 (.bool false) ?_;clear F ac;intro ac F
   refine Y.ret ?_
   refine X.blockR (X.thenR (X.thenR (X.blockR (X.thenR ?_))))
   exact Y.ret0 (v := .bool false) F (Y.r1 F) ⟨by rw [task_eq2, twice_some hq h13p]; rfl, G⟩
set_option maxRecDepth 100000 in
set_option maxHeartbeats 400000 in
theorem host_any (p : Pb) (ta ha ba la : Option Addr) (tc hc bc lc : Nat) (i : Nat) (w : World) (hP : PbAt w p ta ha ba la tc hc bc lc) (hi : i < p.nh) :
  Calls Try.prog 60 #[.agg #[.slice ta p.nt tc, .slice ha p.nh hc, .slice ba p.nb bc, .slice la p.nl lc], Vi i] w fun e w' => e = .returned (.bool (hostB p i)) ∧ Gr w w' := by
 have G := Gr.refl w
 have hpt := hP.t
 have hph := hP.h
 have hpb := hP.b
 have hpl := hP.l
 have hplen := hP.len
 obtain ⟨hn1, hn2, hn3, hn4⟩ := hplen
 have hcp1 := hpt.cap
 have hcp2 := hph.cap
 have hcp3 := hpb.cap
 have hcp4 := hpl.cap
 refine Y.calls 54 Try.func60 rfl rfl ?_
 intro ac F0
 have F : Fr ac 54 [(0, .agg #[.slice ta p.nt tc, .slice ha p.nh hc, .slice ba p.nb bc, .slice la p.nl lc]), (1, Vi i)] := F0.sub _
 clear F0
 refine Y.sl ?_
 refine Y.pv F (X.box rfl (F.ev 0 (.agg #[.slice ta p.nt tc, .slice ha p.nh hc, .slice ba p.nb bc, .slice la p.nl lc])) X.bx) ?_;clear F ac;intro ac F
 obtain ⟨w3, hw_, g, hb, hbl, hC2⟩ := Y.bxd (RCells.nil w) #[.slice ta p.nt tc, .slice ha p.nh hc, .slice ba p.nb bc, .slice la p.nl lc] 27;rw [hw_];clear hw_
 replace G := G.trans g
 have hC := hC2
 clear hC2
 replace hpt := hpt.gr g
 replace hph := hph.gr g
 replace hpb := hpb.gr g
 replace hpl := hpl.gr g
 clear g hb hbl
 refine Y.pv F (X.assign rfl (X.kc (.bool false) rfl)) ?_;clear F ac;intro ac F
 refine Y.nt F [(1, Vi i), (2, Vp w.heap.size)] ?_;clear F ac;intro ac F
 refine Y.sl ?_
 refine Y.pv3 F (X.field rfl (F.ev 2 (Vp w.heap.size)) (X.fld Try.underlying27 rfl (Try.siz23 _) rfl rfl)) (fun _ F=>X.load rfl (F.ev 7 (.pointer (some ⟨w.heap.size, 1, none⟩))) (X.ld1 (Try.agg23 _) (hC.at 1 rfl))) (fun _ F=>X.move rfl (F.ev 1 (Vi i))) ?_;clear F ac;intro ac F
 obtain ⟨pd4, pe4, -, pc4⟩ := hph.at (j := i) (by omega)
 subst pe4
 replace hC := hC.append (show RCells w3 (Y.cs (pd4.add (i * 6)) [.string (p.hn i), Vi (p.hv i 1), Vi (p.hv i 2), Vi (p.hv i 3), Vi (p.hv i 4), Vi (p.hv i 5)]) from (RCells.cons (pc4 0 (by decide)) (RCells.cons (pc4 1 (by decide)) (RCells.cons (pc4 2 (by decide)) (RCells.cons (pc4 3 (by decide)) (RCells.cons (pc4 4 (by decide)) (RCells.cons (pc4 5 (by decide)) (RCells.nil _))))))))
 clear pc4
 refine Y.pv3 F (X.index rfl (F.ev 8 (.slice (some pd4) p.nh hc)) (F.ev 9 (Vi i)) (X.idx (k := i) Try.underlying23 (Try.siz53 _) (by omega) (by omega) rfl)) (fun _ F=>X.load rfl (F.ev 10 (.pointer (some (pd4.add (i * 6))))) (X.ldN (Try.agg53 _) (Try.siz53 _) (Y.atz (pd4.add (i * 6)) (Y.AtFrom.cons (hC.at 4 rfl) (Y.AtFrom.cons (hC.at 5 rfl) (Y.AtFrom.cons (hC.at 6 rfl) (Y.AtFrom.cons (hC.at 7 rfl) (Y.AtFrom.cons (hC.at 8 rfl) (Y.AtFrom.cons (hC.at 9 rfl) (Y.AtFrom.nil _ _ _)))))))))) (fun _ F=>Y.al rfl (Try.new53 _)) fun ac F=>Y.punit F (X.w0 rfl) rfl (X.store rfl (F.ev 5 (Vp w3.heap.size)) (F.ev 11 (.agg #[.string (p.hn i), Vi (p.hv i 1), Vi (p.hv i 2), Vi (p.hv i 3), Vi (p.hv i 4), Vi (p.hv i 5)])) (Y.stNew [.string (p.hn i), Vi (p.hv i 1), Vi (p.hv i 2), Vi (p.hv i 3), Vi (p.hv i 4), Vi (p.hv i 5)] [(.string ByteArray.empty), Vi 0, Vi 0, Vi 0, Vi 0, Vi 0] (Try.siz53 _) rfl rfl)) ?_;clear F ac;intro ac F
 obtain ⟨w5, hw_, g, hb, hbl, hC2⟩ := Y.bxd hC #[.string (p.hn i), Vi (p.hv i 1), Vi (p.hv i 2), Vi (p.hv i 3), Vi (p.hv i 4), Vi (p.hv i 5)] 53;rw [hw_];clear hw_
 replace G := G.trans g
 replace hC := hC2
 clear hC2
 replace hpt := hpt.gr g
 replace hph := hph.gr g
 replace hpb := hpb.gr g
 replace hpl := hpl.gr g
 clear g hb hbl
 refine Y.nt F [(1, Vi i), (2, Vp w.heap.size), (5, Vp w3.heap.size)] ?_;clear F ac;intro ac F
 refine Y.seq ?_
 refine Y.sg F [(1, Vi i), (2, Vp w.heap.size), (5, Vp w3.heap.size), (6, Vi 0)] (Y.pv F (X.assign rfl (X.kc (Vi 0) rfl)) fun ac F=>Y.fin F) ?_;clear F ac;intro ac F
 refine Y.block ?_
 have hptB := hpt
 have hphB := hph
 have hpbB := hpb
 have hplB := hpl
 have hCB := hC
 have GB := G
 refine Y.loop (fun me_ ac wr => ∃ (q : Nat), me_ = i - q ∧ Gr w5 wr ∧ q ≤ i ∧ allN (fun q => !((p.hn q).toList == (p.hn i).toList)) q = true ∧ Fr ac 54 [(1, Vi i), (2, Vp w.heap.size), (5, Vp w3.heap.size), (6, Vi q)]) _ ⟨0, rfl, Gr.refl _, Nat.zero_le _, rfl, F.sub _⟩ ?_
 clear F
 intro me_ ac w6 hI
 obtain ⟨q, rfl, gr, hq0, hok, F⟩ := hI
 replace G := GB.trans gr
 replace hC := hCB.gr gr
 replace hpt := hptB.gr gr
 replace hph := hphB.gr gr
 replace hpb := hpbB.gr gr
 replace hpl := hplB.gr gr
 have GB_ := gr
 clear gr
 refine Y.seq ?_
 refine Y.sg F [(1, Vi i), (2, Vp w.heap.size), (5, Vp w3.heap.size), (6, Vi q), (14, .bool (decide ((q : Int) < i)))] (Y.pv F (X.move rfl (F.ev 6 (Vi q))) fun ac F=>Y.pv F (X.move rfl (F.ev 1 (Vi i))) fun ac F=>Y.pv F (X.binop rfl (F.ev 12 (Vi q)) (F.ev 13 (Vi i)) (X.lssI Try.underlying3 rfl)) fun ac F=>Y.fin F) ?_;clear F ac;intro ac F
 cases h7 : decide ((q : Int) < i) with
 | false =>
  try rw [h7] at F
  have h7p : ¬ ((q : Int) < i) := of_decide_eq_false h7
  obtain rfl : i = q := by omega
  have htw := twice_none hok
  refine Y.cF F 14 ?_
  refine Y.exit ?_
  refine X.thenX (X.thenX (X.blockX (X.thenN ?_)))
  refine Y.sl ?_
  refine Y.pv2 F (X.field rfl (F.ev 5 (Vp w3.heap.size)) (X.fld Try.underlying53 rfl (Try.siz9 _) rfl rfl)) (fun _ F=>X.load rfl (F.ev 26 (Vp w3.heap.size)) (X.ld1 (Try.agg9 _) (hC.at 10 rfl))) fun ac F=>Y.pc F 97 (X.a1 (F.ev 27 (.string (p.hn i)))) Try.func97 (named2_any (p.hn i) w6 (hP.s2 i (by omega))) ?_
  clear F ac
  rintro e w' ⟨rfl, hw_⟩
  obtain rfl : w6 = w' := hw_.symm
  clear hw_
  refine ⟨_, rfl, ?_⟩
  intro ac F
  refine Y.pv F (X.move rfl (F.ev 28 (.bool (nameB (p.hn i))))) ?_;clear F ac;intro ac F
  cases h8 : nameB (p.hn i) with
  | false =>
   try rw [h8] at F
   refine Y.p3 F 3 29 false fun ac F=>Y.pv2 F (X.pickF rfl (F.ev 29 (.bool false)) (X.kc (.bool false) rfl)) (fun _ F=>X.move rfl (F.ev 33 (.bool false))) fun ac F=>Y.p3 F 8 34 false fun ac F=>Y.pv2 F (X.pickF rfl (F.ev 34 (.bool false)) (X.kc (.bool false) rfl)) (fun _ F=>X.move rfl (F.ev 38 (.bool false))) fun ac F=>Y.p3 F 13 39 false fun ac F=>Y.pv2 F (X.pickF rfl (F.ev 39 (.bool false)) (X.kc (.bool false) rfl)) (fun _ F=>X.move rfl (F.ev 43 (.bool false))) fun ac F=>Y.p3 F 18 44 false fun ac F=>Y.pv2 F (X.pickF rfl (F.ev 44 (.bool false)) (X.kc (.bool false) rfl)) (fun _ F=>X.move rfl (F.ev 48 (.bool false))) fun ac F=>Y.p3 F 23 49 false fun ac F=>Y.pv2 F (X.pickF rfl (F.ev 49 (.bool false)) (X.kc (.bool false) rfl)) (fun _ F=>X.assign rfl (F.ev 53 (.bool false))) ?_;clear F ac;intro ac F
   refine Y.nt F [(4, .bool false)] ?_;clear F ac;intro ac F
   refine Y.ret ?_
   exact Y.ret0 (v := .bool false) F (Y.r1 F) ⟨by rw [host_eq2, htw]; simp [h8], G⟩
  | true =>
   try rw [h8] at F
   refine Y.pg F 3 29 true (X.field rfl (F.ev 5 (Vp w3.heap.size)) (X.fld Try.underlying53 rfl (Try.siz3 _) rfl rfl)) fun ac F=>Y.pg F 3 29 true (X.load rfl (F.ev 30 (.pointer (some ⟨w3.heap.size, 1, none⟩))) (X.ld1 (Try.agg3 _) (hC.at 11 rfl))) ?_;clear F ac;intro ac F
   refine Y.pcall F (X.w1 rfl (F.yl (j := 3) (d := 29) (b := true) rfl (by kernel_rfl))) rfl (X.enter (F := 63) rfl (X.kc (.func (.func 63) #[] #[]) rfl) (X.a1 (F.ev 31 (Vi (p.hv i 1)))) (enters_of Try.func63 (by kernel_rfl) rfl _)) (amount_any (p.hv i 1) w6) ?_
   clear F ac
   rintro e w' ⟨rfl, hw_⟩
   obtain rfl : w6 = w' := hw_.symm
   clear hw_
   refine ⟨_, rfl, ?_⟩
   intro ac F
   refine Y.pv2 F (X.pickT rfl (F.ev 29 (.bool true)) (F.ev 32 (.bool (amtB (p.hv i 1))))) (fun _ F=>X.move rfl (F.ev 33 (.bool (amtB (p.hv i 1))))) ?_;clear F ac;intro ac F
   cases h9 : amtB (p.hv i 1) with
   | false =>
    try rw [h9] at F
    refine Y.p3 F 8 34 false fun ac F=>Y.pv2 F (X.pickF rfl (F.ev 34 (.bool false)) (X.kc (.bool false) rfl)) (fun _ F=>X.move rfl (F.ev 38 (.bool false))) fun ac F=>Y.p3 F 13 39 false fun ac F=>Y.pv2 F (X.pickF rfl (F.ev 39 (.bool false)) (X.kc (.bool false) rfl)) (fun _ F=>X.move rfl (F.ev 43 (.bool false))) fun ac F=>Y.p3 F 18 44 false fun ac F=>Y.pv2 F (X.pickF rfl (F.ev 44 (.bool false)) (X.kc (.bool false) rfl)) (fun _ F=>X.move rfl (F.ev 48 (.bool false))) fun ac F=>Y.p3 F 23 49 false fun ac F=>Y.pv2 F (X.pickF rfl (F.ev 49 (.bool false)) (X.kc (.bool false) rfl)) (fun _ F=>X.assign rfl (F.ev 53 (.bool false))) ?_;clear F ac;intro ac F
    refine Y.nt F [(4, .bool false)] ?_;clear F ac;intro ac F
    refine Y.ret ?_
    exact Y.ret0 (v := .bool false) F (Y.r1 F) ⟨by rw [host_eq2, htw]; simp [h9, h8], G⟩
   | true =>
    try rw [h9] at F
    refine Y.pg F 8 34 true (X.field rfl (F.ev 5 (Vp w3.heap.size)) (X.fld Try.underlying53 rfl (Try.siz3 _) rfl rfl)) fun ac F=>Y.pg F 8 34 true (X.load rfl (F.ev 35 (.pointer (some ⟨w3.heap.size, 2, none⟩))) (X.ld1 (Try.agg3 _) (hC.at 12 rfl))) ?_;clear F ac;intro ac F
    refine Y.pcall F (X.w1 rfl (F.yl (j := 8) (d := 34) (b := true) rfl (by kernel_rfl))) rfl (X.enter (F := 63) rfl (X.kc (.func (.func 63) #[] #[]) rfl) (X.a1 (F.ev 36 (Vi (p.hv i 2)))) (enters_of Try.func63 (by kernel_rfl) rfl _)) (amount_any (p.hv i 2) w6) ?_
    clear F ac
    rintro e w' ⟨rfl, hw_⟩
    obtain rfl : w6 = w' := hw_.symm
    clear hw_
    refine ⟨_, rfl, ?_⟩
    intro ac F
    refine Y.pv2 F (X.pickT rfl (F.ev 34 (.bool true)) (F.ev 37 (.bool (amtB (p.hv i 2))))) (fun _ F=>X.move rfl (F.ev 38 (.bool (amtB (p.hv i 2))))) ?_;clear F ac;intro ac F
    cases h10 : amtB (p.hv i 2) with
    | false =>
     try rw [h10] at F
     refine Y.p3 F 13 39 false fun ac F=>Y.pv2 F (X.pickF rfl (F.ev 39 (.bool false)) (X.kc (.bool false) rfl)) (fun _ F=>X.move rfl (F.ev 43 (.bool false))) fun ac F=>Y.p3 F 18 44 false fun ac F=>Y.pv2 F (X.pickF rfl (F.ev 44 (.bool false)) (X.kc (.bool false) rfl)) (fun _ F=>X.move rfl (F.ev 48 (.bool false))) fun ac F=>Y.p3 F 23 49 false fun ac F=>Y.pv2 F (X.pickF rfl (F.ev 49 (.bool false)) (X.kc (.bool false) rfl)) (fun _ F=>X.assign rfl (F.ev 53 (.bool false))) ?_;clear F ac;intro ac F
     refine Y.nt F [(4, .bool false)] ?_;clear F ac;intro ac F
     refine Y.ret ?_
     exact Y.ret0 (v := .bool false) F (Y.r1 F) ⟨by rw [host_eq2, htw]; simp [h9, h10, h8], G⟩
    | true =>
     try rw [h10] at F
     refine Y.pg F 13 39 true (X.field rfl (F.ev 5 (Vp w3.heap.size)) (X.fld Try.underlying53 rfl (Try.siz3 _) rfl rfl)) fun ac F=>Y.pg F 13 39 true (X.load rfl (F.ev 40 (.pointer (some ⟨w3.heap.size, 4, none⟩))) (X.ld1 (Try.agg3 _) (hC.at 14 rfl))) ?_;clear F ac;intro ac F
     refine Y.pcall F (X.w1 rfl (F.yl (j := 13) (d := 39) (b := true) rfl (by kernel_rfl))) rfl (X.enter (F := 63) rfl (X.kc (.func (.func 63) #[] #[]) rfl) (X.a1 (F.ev 41 (Vi (p.hv i 4)))) (enters_of Try.func63 (by kernel_rfl) rfl _)) (amount_any (p.hv i 4) w6) ?_
     clear F ac
     rintro e w' ⟨rfl, hw_⟩
     obtain rfl : w6 = w' := hw_.symm
     clear hw_
     refine ⟨_, rfl, ?_⟩
     intro ac F
     refine Y.pv2 F (X.pickT rfl (F.ev 39 (.bool true)) (F.ev 42 (.bool (amtB (p.hv i 4))))) (fun _ F=>X.move rfl (F.ev 43 (.bool (amtB (p.hv i 4))))) ?_;clear F ac;intro ac F
     cases h11 : amtB (p.hv i 4) with
     | false =>
      try rw [h11] at F
      refine Y.p3 F 18 44 false fun ac F=>Y.pv2 F (X.pickF rfl (F.ev 44 (.bool false)) (X.kc (.bool false) rfl)) (fun _ F=>X.move rfl (F.ev 48 (.bool false))) fun ac F=>Y.p3 F 23 49 false fun ac F=>Y.pv2 F (X.pickF rfl (F.ev 49 (.bool false)) (X.kc (.bool false) rfl)) (fun _ F=>X.assign rfl (F.ev 53 (.bool false))) ?_;clear F ac;intro ac F
      refine Y.nt F [(4, .bool false)] ?_;clear F ac;intro ac F
      refine Y.ret ?_
      exact Y.ret0 (v := .bool false) F (Y.r1 F) ⟨by rw [host_eq2, htw]; simp [h9, h10, h11, h8], G⟩
     | true =>
      try rw [h11] at F
      refine Y.pg F 18 44 true (X.field rfl (F.ev 5 (Vp w3.heap.size)) (X.fld Try.underlying53 rfl (Try.siz3 _) rfl rfl)) fun ac F=>Y.pg F 18 44 true (X.load rfl (F.ev 45 (.pointer (some ⟨w3.heap.size, 5, none⟩))) (X.ld1 (Try.agg3 _) (hC.at 15 rfl))) ?_;clear F ac;intro ac F
      refine Y.pcall F (X.w1 rfl (F.yl (j := 18) (d := 44) (b := true) rfl (by kernel_rfl))) rfl (X.enter (F := 63) rfl (X.kc (.func (.func 63) #[] #[]) rfl) (X.a1 (F.ev 46 (Vi (p.hv i 5)))) (enters_of Try.func63 (by kernel_rfl) rfl _)) (amount_any (p.hv i 5) w6) ?_
      clear F ac
      rintro e w' ⟨rfl, hw_⟩
      obtain rfl : w6 = w' := hw_.symm
      clear hw_
      refine ⟨_, rfl, ?_⟩
      intro ac F
      refine Y.pv2 F (X.pickT rfl (F.ev 44 (.bool true)) (F.ev 47 (.bool (amtB (p.hv i 5))))) (fun _ F=>X.move rfl (F.ev 48 (.bool (amtB (p.hv i 5))))) ?_;clear F ac;intro ac F
      cases h12 : amtB (p.hv i 5) with
      | false =>
       try rw [h12] at F
       refine Y.p3 F 23 49 false fun ac F=>Y.pv2 F (X.pickF rfl (F.ev 49 (.bool false)) (X.kc (.bool false) rfl)) (fun _ F=>X.assign rfl (F.ev 53 (.bool false))) ?_;clear F ac;intro ac F
       refine Y.nt F [(4, .bool false)] ?_;clear F ac;intro ac F
       refine Y.ret ?_
       exact Y.ret0 (v := .bool false) F (Y.r1 F) ⟨by rw [host_eq2, htw]; simp [h9, h10, h11, h12, h8], G⟩
      | true =>
       try rw [h12] at F
       refine Y.pg F 23 49 true (X.field rfl (F.ev 5 (Vp w3.heap.size)) (X.fld Try.underlying53 rfl (Try.siz3 _) rfl rfl)) fun ac F=>Y.pg F 23 49 true (X.load rfl (F.ev 50 (.pointer (some ⟨w3.heap.size, 3, none⟩))) (X.ld1 (Try.agg3 _) (hC.at 13 rfl))) ?_;clear F ac;intro ac F
       refine Y.pcall F (X.w1 rfl (F.yl (j := 23) (d := 49) (b := true) rfl (by kernel_rfl))) rfl (X.enter (F := 98) rfl (X.kc (.func (.func 98) #[] #[]) rfl) (X.a1 (F.ev 51 (Vi (p.hv i 3)))) (enters_of Try.func98 (by kernel_rfl) rfl _)) (level_any (p.hv i 3) w6) ?_
       clear F ac
       rintro e w' ⟨rfl, hw_⟩
       obtain rfl : w6 = w' := hw_.symm
       clear hw_
       refine ⟨_, rfl, ?_⟩
       intro ac F
       refine Y.pv2 F (X.pickT rfl (F.ev 49 (.bool true)) (F.ev 52 (.bool (levB (p.hv i 3))))) (fun _ F=>X.assign rfl (F.ev 53 (.bool (levB (p.hv i 3))))) ?_;clear F ac;intro ac F
       refine Y.nt F [(4, .bool (levB (p.hv i 3)))] ?_;clear F ac;intro ac F
       refine Y.ret ?_
       exact Y.ret0 (v := .bool (levB (p.hv i 3))) F (Y.r1 F) ⟨by rw [host_eq2, htw]; simp [h9, h10, h11, h12, h8], G⟩
 | true =>
  try rw [h7] at F
  have h7p : ((q : Int) < i) := of_decide_eq_true h7
  have hq : q < i := by omega
  refine Y.cT F 14 ?_
  refine Y.skip ?_
  refine X.thenN ?_
  refine Y.seq ?_
  refine Y.block ?_
  refine Y.seq ?_
  obtain ⟨pd13, pe13, -, pc13⟩ := hph.at (j := q) (by omega)
  injection pe13 with pe13
  subst pe13
  replace hC := hC.append (show RCells w6 (Y.cs (pd4.add (q * 6)) [.string (p.hn q), Vi (p.hv q 1), Vi (p.hv q 2), Vi (p.hv q 3), Vi (p.hv q 4), Vi (p.hv q 5)]) from (RCells.cons (pc13 0 (by decide)) (RCells.cons (pc13 1 (by decide)) (RCells.cons (pc13 2 (by decide)) (RCells.cons (pc13 3 (by decide)) (RCells.cons (pc13 4 (by decide)) (RCells.cons (pc13 5 (by decide)) (RCells.nil _))))))))
  clear pc13
  refine Y.region F [some (.pointer (some ⟨w.heap.size, 1, none⟩)), some (.slice (some pd4) p.nh hc), some (Vi q), some (.pointer (some (pd4.add (q * 6)))), some (.pointer (some (pd4.add (q * 6)))), some (.string (p.hn q)), some (Vp w3.heap.size), some (.string (p.hn i)), some (.bool ((p.hn q).toList == (p.hn i).toList))] [] rfl ⟨by kernel_rfl, of_decide_eq_true (by kernel_rfl), by kernel_rfl, by kernel_rfl, by kernel_rfl⟩ ⟨?_, ?_, ?_, ?_, ?_, ?_, ?_, ?_, ?_, trivial⟩ ?_
  ·intro ac done u W Sx hR
   exact X.vl (X.field rfl (Sx.ev 2 (Vp w.heap.size)) (X.fld Try.underlying27 rfl (Try.siz23 _) rfl rfl)) hR.st0
  ·intro ac done u W Sx hR
   have g : Gr w6 W := hR.1
   exact X.vl (X.load rfl (Sx.ev 17 (.pointer (some ⟨w.heap.size, 1, none⟩))) (X.ld1 (Try.agg23 _) ((hC.gr g).at 1 rfl))) hR.st0
  ·intro ac done u W Sx hR
   exact X.vl (X.move rfl (Sx.ev 6 (Vi q))) hR.st0
  ·intro ac done u W Sx hR
   exact X.vl (X.index rfl (Sx.ev 18 (.slice (some pd4) p.nh hc)) (Sx.ev 19 (Vi q)) (X.idx (k := q) Try.underlying23 (Try.siz53 _) (by omega) (by omega) rfl)) hR.st0
  ·intro ac done u W Sx hR
   exact X.vl (X.field rfl (Sx.ev 20 (.pointer (some (pd4.add (q * 6))))) (X.fld Try.underlying53 rfl (Try.siz9 _) rfl rfl)) hR.st0
  ·intro ac done u W Sx hR
   have g : Gr w6 W := hR.1
   exact X.vl (X.load rfl (Sx.ev 21 (.pointer (some (pd4.add (q * 6))))) (X.ld1 (Try.agg9 _) ((hC.gr g).at 16 rfl))) hR.st0
  ·intro ac done u W Sx hR
   exact X.vl (X.field rfl (Sx.ev 5 (Vp w3.heap.size)) (X.fld Try.underlying53 rfl (Try.siz9 _) rfl rfl)) hR.st0
  ·intro ac done u W Sx hR
   have g : Gr w6 W := hR.1
   exact X.vl (X.load rfl (Sx.ev 23 (Vp w3.heap.size)) (X.ld1 (Try.agg9 _) ((hC.gr g).at 10 rfl))) hR.st0
  ·intro ac done u W Sx hR
   exact X.vl (X.binop rfl (Sx.ev 22 (.string (p.hn q))) (Sx.ev 24 (.string (p.hn i))) (Y.eqlS Try.underlying9 rfl)) hR.st0
  intro ac u w14 hs hd hl ho hR
  have g : Gr w6 w14 := hR.1
  replace F : Fr ac 54 [(1, Vi i), (2, Vp w.heap.size), (5, Vp w3.heap.size), (6, Vi q), (25, .bool ((p.hn q).toList == (p.hn i).toList))] := X.fr hs hd hl _ (by kernel_rfl)
  clear hs hd hl ho hR
  replace G := G.trans g
  replace hC := hC.gr g
  replace GB_ := GB_.trans g
  replace hpt := hpt.gr g
  replace hph := hph.gr g
  replace hpb := hpb.gr g
  replace hpl := hpl.gr g
  clear g
  refine X.thenN ?_
  cases h15 : ((p.hn q).toList == (p.hn i).toList) with
  | false =>
   try rw [h15] at F
   have h15p : ¬ (p.hn q).toList = (p.hn i).toList := by simpa using h15
   refine Y.cF F 25 ?_
   refine Y.skip ?_
   refine X.blockN (X.thenN ?_)
   refine Y.lg F [(1, Vi i), (2, Vp w.heap.size), (5, Vp w3.heap.size), (6, Vi ((q : Int) + 1))] (by
    refine Y.pv F (X.move rfl (F.ev 6 (Vi q))) fun ac F=>?_
    refine Y.pv F (X.binop rfl (F.ev 15 (Vi q)) (X.kc (Vi 1) rfl) (X.addI Try.underlying3 rfl (by omega) (by omega))) fun ac F=>?_
    refine Y.pv F (X.assign rfl (F.ev 16 (Vi ((q : Int) + 1)))) fun ac F=>?_
    exact Y.fin F) ?_;clear F ac;intro ac F
   refine ⟨_, ?_, q + 1, rfl, GB_, by omega, allN_succ hok (by simp [h15p]), F.sub _⟩
   omega
  | true =>
   try rw [h15] at F
   have h15p : (p.hn q).toList = (p.hn i).toList := by simpa using h15
   refine Y.cT F 25 ?_
   refine Y.sk F 4 (.bool false) ?_;clear F ac;intro ac F
   refine Y.ret ?_
   refine X.blockR (X.thenR (X.thenR (X.blockR (X.thenR ?_))))
   exact Y.ret0 (v := .bool false) F (Y.r1 F) ⟨by rw [host_eq2, twice_some hq h15p]; rfl, G⟩
set_option maxRecDepth 100000 in
set_option maxHeartbeats 2000000 in
theorem check2_any (p : Pb) (ta ha ba la : Option Addr) (tc hc bc lc : Nat) (w : World) (hP : PbAt w p ta ha ba la tc hc bc lc) :
  Calls Try.prog 19 #[.agg #[.slice ta p.nt tc, .slice ha p.nh hc, .slice ba p.nb bc, .slice la p.nl lc]] w fun e w' => e = .returned (Vi (chkE p)) ∧ Gr w w' := by
 have G := Gr.refl w
 have hpt := hP.t
 have hph := hP.h
 have hpb := hP.b
 have hpl := hP.l
 have hplen := hP.len
 obtain ⟨hn1, hn2, hn3, hn4⟩ := hplen
 have hcp1 := hpt.cap
 have hcp2 := hph.cap
 have hcp3 := hpb.cap
 have hcp4 := hpl.cap
 refine Y.calls 159 Try.func19 rfl rfl ?_
 intro ac F0
 have F : Fr ac 159 [(0, .agg #[.slice ta p.nt tc, .slice ha p.nh hc, .slice ba p.nb bc, .slice la p.nl lc])] := F0.sub _
 clear F0
 refine Y.sl ?_
 refine Y.pv F (X.box rfl (F.ev 0 (.agg #[.slice ta p.nt tc, .slice ha p.nh hc, .slice ba p.nb bc, .slice la p.nl lc])) X.bx) ?_;clear F ac;intro ac F
 obtain ⟨w3, hw_, g, hb, hbl, hC2⟩ := Y.bxd (RCells.nil w) #[.slice ta p.nt tc, .slice ha p.nh hc, .slice ba p.nb bc, .slice la p.nl lc] 27;rw [hw_];clear hw_
 replace G := G.trans g
 have hC := hC2
 clear hC2
 replace hpt := hpt.gr g
 replace hph := hph.gr g
 replace hpb := hpb.gr g
 replace hpl := hpl.gr g
 clear g hb hbl
 refine Y.pv F (X.assign rfl (X.kc (Vi 0) rfl)) ?_;clear F ac;intro ac F
 refine Y.nt F [(1, Vp w.heap.size)] ?_;clear F ac;intro ac F
 refine Y.seq ?_
 refine Y.sl ?_
 refine Y.pv4 F (X.field rfl (F.ev 1 (Vp w.heap.size)) (X.fld Try.underlying27 rfl (Try.siz22 _) rfl rfl)) (fun _ F=>X.load rfl (F.ev 10 (Vp w.heap.size)) (X.ld1 (Try.agg22 _) (hC.at 0 rfl))) (fun _ F=>X.len1 Try.underlying22 rfl (F.ev 11 (.slice ta p.nt tc))) (fun _ F=>X.binop rfl (F.ev 12 (Vi p.nt)) (X.kc (Vi 10) rfl) (X.gtrI Try.underlying3 rfl)) fun ac F=>Y.pv F (X.move rfl (F.ev 13 (.bool (decide ((10 : Int) < p.nt))))) ?_;clear F ac;intro ac F
 cases h4 : decide ((10 : Int) < p.nt) with
 | false =>
  try rw [h4] at F
  have h4p : ¬ ((10 : Int) < p.nt) := of_decide_eq_false h4
  refine Y.pg F 4 14 false (X.field rfl (F.ev 1 (Vp w.heap.size)) (X.fld Try.underlying27 rfl (Try.siz23 _) rfl rfl)) fun ac F=>Y.pg F 4 14 false (X.load rfl (F.ev 15 (.pointer (some ⟨w.heap.size, 1, none⟩))) (X.ld1 (Try.agg23 _) (hC.at 1 rfl))) fun ac F=>Y.pg F 4 14 false (X.len1 Try.underlying23 rfl (F.ev 16 (.slice ha p.nh hc))) fun ac F=>Y.pg F 4 14 false (X.binop rfl (F.ev 17 (Vi p.nh)) (X.kc (Vi 6) rfl) (X.gtrI Try.underlying3 rfl)) fun ac F=>Y.pv2 F (X.pickF rfl (F.ev 14 (.bool false)) (F.ev 18 (.bool (decide ((6 : Int) < p.nh))))) (fun _ F=>X.move rfl (F.ev 19 (.bool (decide ((6 : Int) < p.nh))))) ?_;clear F ac;intro ac F
  cases h5 : decide ((6 : Int) < p.nh) with
  | false =>
   try rw [h5] at F
   have h5p : ¬ ((6 : Int) < p.nh) := of_decide_eq_false h5
   refine Y.pg F 10 20 false (X.field rfl (F.ev 1 (Vp w.heap.size)) (X.fld Try.underlying27 rfl (Try.siz24 _) rfl rfl)) fun ac F=>Y.pg F 10 20 false (X.load rfl (F.ev 21 (.pointer (some ⟨w.heap.size, 2, none⟩))) (X.ld1 (Try.agg24 _) (hC.at 2 rfl))) fun ac F=>Y.pg F 10 20 false (X.len1 Try.underlying24 rfl (F.ev 22 (.slice ba p.nb bc))) fun ac F=>Y.pg F 10 20 false (X.binop rfl (F.ev 23 (Vi p.nb)) (X.kc (Vi 30) rfl) (X.gtrI Try.underlying3 rfl)) fun ac F=>Y.pv2 F (X.pickF rfl (F.ev 20 (.bool false)) (F.ev 24 (.bool (decide ((30 : Int) < p.nb))))) (fun _ F=>X.move rfl (F.ev 25 (.bool (decide ((30 : Int) < p.nb))))) ?_;clear F ac;intro ac F
   cases h6 : decide ((30 : Int) < p.nb) with
   | false =>
    try rw [h6] at F
    have h6p : ¬ ((30 : Int) < p.nb) := of_decide_eq_false h6
    refine Y.pg F 16 26 false (X.field rfl (F.ev 1 (Vp w.heap.size)) (X.fld Try.underlying27 rfl (Try.siz25 _) rfl rfl)) fun ac F=>Y.pg F 16 26 false (X.load rfl (F.ev 27 (.pointer (some ⟨w.heap.size, 3, none⟩))) (X.ld1 (Try.agg25 _) (hC.at 3 rfl))) fun ac F=>Y.pg F 16 26 false (X.len1 Try.underlying25 rfl (F.ev 28 (.slice la p.nl lc))) fun ac F=>Y.pg F 16 26 false (X.binop rfl (F.ev 29 (Vi p.nl)) (X.kc (Vi 30) rfl) (X.gtrI Try.underlying3 rfl)) fun ac F=>Y.pv F (X.pickF rfl (F.ev 26 (.bool false)) (F.ev 30 (.bool (decide ((30 : Int) < p.nl))))) ?_;clear F ac;intro ac F
    refine Y.nt F [(1, Vp w.heap.size), (31, .bool (decide ((30 : Int) < p.nl)))] ?_;clear F ac;intro ac F
    cases h7 : decide ((30 : Int) < p.nl) with
    | false =>
     try rw [h7] at F
     have h7p : ¬ ((30 : Int) < p.nl) := of_decide_eq_false h7
     refine Y.cF F 31 ?_
     refine Y.skip ?_
     refine X.thenN ?_
     refine Y.seq ?_
     refine Y.sg F [(1, Vp w.heap.size), (3, Vi 0)] (Y.pv F (X.assign rfl (X.kc (Vi 0) rfl)) fun ac F=>Y.fin F) ?_;clear F ac;intro ac F
     refine Y.block ?_
     have hbig : ¬ (10 < p.nt ∨ 6 < p.nh ∨ 30 < p.nb ∨ 30 < p.nl) := by omega
     have hptB := hpt
     have hphB := hph
     have hpbB := hpb
     have hplB := hpl
     have hCB := hC
     have GB := G
     refine Y.loop (fun me_ ac wr => ∃ (i : Nat), me_ = p.nt - i ∧ Gr w3 wr ∧ i ≤ p.nt ∧ allN (taskB p) i = true ∧ Fr ac 159 [(1, Vp w.heap.size), (3, Vi i)]) _ ⟨0, rfl, Gr.refl _, Nat.zero_le _, rfl, F.sub _⟩ ?_
     clear F
     intro me_ ac w8 hI
     obtain ⟨i, rfl, gr, hi0, hok, F⟩ := hI
     replace G := GB.trans gr
     replace hC := hCB.gr gr
     replace hpt := hptB.gr gr
     replace hph := hphB.gr gr
     replace hpb := hpbB.gr gr
     replace hpl := hplB.gr gr
     have GB_ := gr
     clear gr
     refine Y.seq ?_
     refine Y.sg F [(1, Vp w.heap.size), (3, Vi i), (36, .bool (decide ((i : Int) < p.nt)))] (by
      refine Y.pv F (X.move rfl (F.ev 3 (Vi i))) fun ac F=>?_
      refine Y.pv F (X.field rfl (F.ev 1 (Vp w.heap.size)) (X.fld Try.underlying27 rfl (Try.siz22 _) rfl rfl)) fun ac F=>?_
      refine Y.pv F (X.load rfl (F.ev 33 (Vp w.heap.size)) (X.ld1 (Try.agg22 _) (hC.at 0 rfl))) fun ac F=>?_
      refine Y.pv F (X.len1 Try.underlying22 rfl (F.ev 34 (.slice ta p.nt tc))) fun ac F=>?_
      refine Y.pv F (X.binop rfl (F.ev 32 (Vi i)) (F.ev 35 (Vi p.nt)) (X.lssI Try.underlying3 rfl)) fun ac F=>?_
      exact Y.fin F) ?_;clear F ac;intro ac F
     cases h9 : decide ((i : Int) < p.nt) with
     | false =>
      try rw [h9] at F
      have h9p : ¬ ((i : Int) < p.nt) := of_decide_eq_false h9
      obtain rfl : i = p.nt := by omega
      have hall1 := hok
      refine Y.cF F 36 ?_
      refine Y.exit ?_
      refine X.thenX (X.thenX (X.blockX (X.thenN ?_)))
      refine Y.seq ?_
      refine Y.sg F [(1, Vp w.heap.size), (4, Vi 0)] (Y.pv F (X.assign rfl (X.kc (Vi 0) rfl)) fun ac F=>Y.fin F) ?_;clear F ac;intro ac F
      refine Y.block ?_
      have hptBB := hpt
      have hphBB := hph
      have hpbBB := hpb
      have hplBB := hpl
      have hCBB := hC
      have GBB := G
      refine Y.loop (fun me_ ac wr => ∃ (j : Nat), me_ = p.nh - j ∧ Gr w8 wr ∧ j ≤ p.nh ∧ allN (hostB p) j = true ∧ Fr ac 159 [(1, Vp w.heap.size), (4, Vi j)]) _ ⟨0, rfl, Gr.refl _, Nat.zero_le _, rfl, F.sub _⟩ ?_
      clear F
      intro me_ ac w10 hI
      obtain ⟨j, rfl, gr, hi0, hok, F⟩ := hI
      replace G := GBB.trans gr
      replace hC := hCBB.gr gr
      replace hpt := hptBB.gr gr
      replace hph := hphBB.gr gr
      replace hpb := hpbBB.gr gr
      replace hpl := hplBB.gr gr
      replace GB_ := GB_.trans gr
      have GBB_ := gr
      clear gr
      refine Y.seq ?_
      refine Y.sg F [(1, Vp w.heap.size), (4, Vi j), (47, .bool (decide ((j : Int) < p.nh)))] (by
       refine Y.pv F (X.move rfl (F.ev 4 (Vi j))) fun ac F=>?_
       refine Y.pv F (X.field rfl (F.ev 1 (Vp w.heap.size)) (X.fld Try.underlying27 rfl (Try.siz23 _) rfl rfl)) fun ac F=>?_
       refine Y.pv F (X.load rfl (F.ev 44 (.pointer (some ⟨w.heap.size, 1, none⟩))) (X.ld1 (Try.agg23 _) (hC.at 1 rfl))) fun ac F=>?_
       refine Y.pv F (X.len1 Try.underlying23 rfl (F.ev 45 (.slice ha p.nh hc))) fun ac F=>?_
       refine Y.pv F (X.binop rfl (F.ev 43 (Vi j)) (F.ev 46 (Vi p.nh)) (X.lssI Try.underlying3 rfl)) fun ac F=>?_
       exact Y.fin F) ?_;clear F ac;intro ac F
      cases h11 : decide ((j : Int) < p.nh) with
      | false =>
       try rw [h11] at F
       have h11p : ¬ ((j : Int) < p.nh) := of_decide_eq_false h11
       obtain rfl : j = p.nh := by omega
       have hall2 := hok
       refine Y.cF F 47 ?_
       refine Y.exit ?_
       refine X.thenX (X.thenX (X.blockX (X.thenN ?_)))
       refine Y.seq ?_
       refine Y.sg F [(1, Vp w.heap.size), (5, Vi 0)] (Y.pv F (X.assign rfl (X.kc (Vi 0) rfl)) fun ac F=>Y.fin F) ?_;clear F ac;intro ac F
       refine Y.block ?_
       have hptBBB := hpt
       have hphBBB := hph
       have hpbBBB := hpb
       have hplBBB := hpl
       have hCBBB := hC
       have GBBB := G
       refine Y.loop (fun me_ ac wr => ∃ (k : Nat), me_ = p.nb - k ∧ Gr w10 wr ∧ k ≤ p.nb ∧ allN (bondB p) k = true ∧ Fr ac 159 [(1, Vp w.heap.size), (5, Vi k)]) _ ⟨0, rfl, Gr.refl _, Nat.zero_le _, rfl, F.sub _⟩ ?_
       clear F
       intro me_ ac w12 hI
       obtain ⟨k, rfl, gr, hi0, hok, F⟩ := hI
       replace G := GBBB.trans gr
       replace hC := hCBBB.gr gr
       replace hpt := hptBBB.gr gr
       replace hph := hphBBB.gr gr
       replace hpb := hpbBBB.gr gr
       replace hpl := hplBBB.gr gr
       replace GB_ := GB_.trans gr
       replace GBB_ := GBB_.trans gr
       have GBBB_ := gr
       clear gr
       refine Y.seq ?_
       refine Y.sg F [(1, Vp w.heap.size), (5, Vi k), (58, .bool (decide ((k : Int) < p.nb)))] (by
        refine Y.pv F (X.move rfl (F.ev 5 (Vi k))) fun ac F=>?_
        refine Y.pv F (X.field rfl (F.ev 1 (Vp w.heap.size)) (X.fld Try.underlying27 rfl (Try.siz24 _) rfl rfl)) fun ac F=>?_
        refine Y.pv F (X.load rfl (F.ev 55 (.pointer (some ⟨w.heap.size, 2, none⟩))) (X.ld1 (Try.agg24 _) (hC.at 2 rfl))) fun ac F=>?_
        refine Y.pv F (X.len1 Try.underlying24 rfl (F.ev 56 (.slice ba p.nb bc))) fun ac F=>?_
        refine Y.pv F (X.binop rfl (F.ev 54 (Vi k)) (F.ev 57 (Vi p.nb)) (X.lssI Try.underlying3 rfl)) fun ac F=>?_
        exact Y.fin F) ?_;clear F ac;intro ac F
       cases h13 : decide ((k : Int) < p.nb) with
       | false =>
        try rw [h13] at F
        have h13p : ¬ ((k : Int) < p.nb) := of_decide_eq_false h13
        obtain rfl : k = p.nb := by omega
        have hall3 := hok
        refine Y.cF F 58 ?_
        refine Y.exit ?_
        refine X.thenX (X.thenX (X.blockX (X.thenN ?_)))
        refine Y.seq ?_
        refine Y.sg F [(1, Vp w.heap.size), (8, Vi 0)] (Y.pv F (X.assign rfl (X.kc (Vi 0) rfl)) fun ac F=>Y.fin F) ?_;clear F ac;intro ac F
        refine Y.block ?_
        have hptBBBB := hpt
        have hphBBBB := hph
        have hpbBBBB := hpb
        have hplBBBB := hpl
        have hCBBBB := hC
        have GBBBB := G
        refine Y.loop (fun me_ ac wr => ∃ (z : Nat), me_ = p.nl - z ∧ Gr w12 wr ∧ z ≤ p.nl ∧ allN (talkB p) z = true ∧ Fr ac 159 [(1, Vp w.heap.size), (8, Vi z)]) _ ⟨0, rfl, Gr.refl _, Nat.zero_le _, rfl, F.sub _⟩ ?_
        clear F
        intro me_ ac w14 hI
        obtain ⟨z, rfl, gr, hi0, hok, F⟩ := hI
        replace G := GBBBB.trans gr
        replace hC := hCBBBB.gr gr
        replace hpt := hptBBBB.gr gr
        replace hph := hphBBBB.gr gr
        replace hpb := hpbBBBB.gr gr
        replace hpl := hplBBBB.gr gr
        replace GB_ := GB_.trans gr
        replace GBB_ := GBB_.trans gr
        replace GBBB_ := GBBB_.trans gr
        have GBBBB_ := gr
        clear gr
        refine Y.seq ?_
        refine Y.sg F [(1, Vp w.heap.size), (8, Vi z), (126, .bool (decide ((z : Int) < p.nl)))] (by
         refine Y.pv F (X.move rfl (F.ev 8 (Vi z))) fun ac F=>?_
         refine Y.pv F (X.field rfl (F.ev 1 (Vp w.heap.size)) (X.fld Try.underlying27 rfl (Try.siz25 _) rfl rfl)) fun ac F=>?_
         refine Y.pv F (X.load rfl (F.ev 123 (.pointer (some ⟨w.heap.size, 3, none⟩))) (X.ld1 (Try.agg25 _) (hC.at 3 rfl))) fun ac F=>?_
         refine Y.pv F (X.len1 Try.underlying25 rfl (F.ev 124 (.slice la p.nl lc))) fun ac F=>?_
         refine Y.pv F (X.binop rfl (F.ev 122 (Vi z)) (F.ev 125 (Vi p.nl)) (X.lssI Try.underlying3 rfl)) fun ac F=>?_
         exact Y.fin F) ?_;clear F ac;intro ac F
        cases h15 : decide ((z : Int) < p.nl) with
        | false =>
         try rw [h15] at F
         have h15p : ¬ ((z : Int) < p.nl) := of_decide_eq_false h15
         obtain rfl : z = p.nl := by omega
         have hall4 := hok
         refine Y.cF F 126 ?_
         refine Y.exit ?_
         refine X.thenX (X.thenX (X.blockX (X.thenN ?_)))
         refine Y.sk F 2 (Vi 0) ?_;clear F ac;intro ac F
         refine Y.ret ?_
         exact Y.ret0 (v := Vi 0) F (Y.r1 F) ⟨ret_int (chk_0 hbig hall1 hall2 hall3 hall4).symm, G⟩
        | true =>
         try rw [h15] at F
         have h15p : ((z : Int) < p.nl) := of_decide_eq_true h15
         have hi : z < p.nl := by omega
         refine Y.cT F 126 ?_
         refine Y.skip ?_
         refine X.thenN ?_
         refine Y.seq ?_
         refine Y.block ?_
         refine Y.sl ?_
         refine Y.pv3 F (X.field rfl (F.ev 1 (Vp w.heap.size)) (X.fld Try.underlying27 rfl (Try.siz25 _) rfl rfl)) (fun _ F=>X.load rfl (F.ev 129 (.pointer (some ⟨w.heap.size, 3, none⟩))) (X.ld1 (Try.agg25 _) (hC.at 3 rfl))) (fun _ F=>X.move rfl (F.ev 8 (Vi z))) ?_;clear F ac;intro ac F
         obtain ⟨pd16, pe16, -, pc16⟩ := hpl.at (j := z) (by omega)
         subst pe16
         replace hC := hC.append (show RCells w14 (Y.cs (pd16.add (z * 3)) [Vi (p.lv z 0), Vi (p.lv z 1), Vi (p.lv z 2)]) from (RCells.cons (pc16 0 (by decide)) (RCells.cons (pc16 1 (by decide)) (RCells.cons (pc16 2 (by decide)) (RCells.nil _)))))
         clear pc16
         refine Y.pv3 F (X.index rfl (F.ev 130 (.slice (some pd16) p.nl lc)) (F.ev 131 (Vi z)) (X.idx (k := z) Try.underlying25 (Try.siz84 _) (by omega) (by omega) rfl)) (fun _ F=>X.load rfl (F.ev 132 (.pointer (some (pd16.add (z * 3))))) (X.ldN (Try.agg84 _) (Try.siz84 _) (Y.atz (pd16.add (z * 3)) (Y.AtFrom.cons (hC.at 4 rfl) (Y.AtFrom.cons (hC.at 5 rfl) (Y.AtFrom.cons (hC.at 6 rfl) (Y.AtFrom.nil _ _ _))))))) (fun _ F=>Y.al rfl (Try.new84 _)) fun ac F=>Y.punit F (X.w0 rfl) rfl (X.store rfl (F.ev 9 (Vp w14.heap.size)) (F.ev 133 (.agg #[Vi (p.lv z 0), Vi (p.lv z 1), Vi (p.lv z 2)])) (Y.stNew [Vi (p.lv z 0), Vi (p.lv z 1), Vi (p.lv z 2)] [Vi 0, Vi 0, Vi 0] (Try.siz84 _) rfl rfl)) ?_;clear F ac;intro ac F
         obtain ⟨w17, hw_, g, hb, hbl, hC2⟩ := Y.bxd hC #[Vi (p.lv z 0), Vi (p.lv z 1), Vi (p.lv z 2)] 84;rw [hw_];clear hw_
         replace G := G.trans g
         replace hC := hC2
         clear hC2
         replace GB_ := GB_.trans g
         replace GBB_ := GBB_.trans g
         replace GBBB_ := GBBB_.trans g
         replace GBBBB_ := GBBBB_.trans g
         replace hpt := hpt.gr g
         replace hph := hph.gr g
         replace hpb := hpb.gr g
         replace hpl := hpl.gr g
         clear g hb hbl
         refine Y.nt F [(1, Vp w.heap.size), (8, Vi z), (9, Vp w14.heap.size)] ?_;clear F ac;intro ac F
         refine Y.sl ?_
         refine Y.pv3 F (X.load rfl (F.ev 1 (Vp w.heap.size)) (X.ldN (Try.agg27 _) (Try.siz27 _) (Y.atz (⟨w.heap.size, 0, none⟩) (Y.AtFrom.cons (hC.at 0 rfl) (Y.AtFrom.cons (hC.at 1 rfl) (Y.AtFrom.cons (hC.at 2 rfl) (Y.AtFrom.cons (hC.at 3 rfl) (Y.AtFrom.nil _ _ _)))))))) (fun _ F=>X.field rfl (F.ev 9 (Vp w14.heap.size)) (X.fld Try.underlying84 rfl (Try.siz3 _) rfl rfl)) (fun _ F=>X.load rfl (F.ev 135 (Vp w14.heap.size)) (X.ld1 (Try.agg3 _) (hC.at 7 rfl))) fun ac F=>Y.pc F 61 (X.a2 (F.ev 134 (.agg #[.slice ta p.nt tc, .slice ha p.nh hc, .slice ba p.nb bc, .slice (some pd16) p.nl lc])) (F.ev 136 (Vi (p.lv z 0)))) Try.func61 (isTask_any p ta ha ba (some pd16) tc hc bc lc (p.lv z 0) w17) ?_
         clear F ac
         rintro e w18 ⟨rfl, g⟩
         refine ⟨_, rfl, ?_⟩
         intro ac F
         replace G := G.trans g
         replace hC := hC.gr g
         replace GB_ := GB_.trans g
         replace GBB_ := GBB_.trans g
         replace GBBB_ := GBBB_.trans g
         replace GBBBB_ := GBBBB_.trans g
         replace hpt := hpt.gr g
         replace hph := hph.gr g
         replace hpb := hpb.gr g
         replace hpl := hpl.gr g
         clear g
         refine Y.pv2 F (X.notB rfl (F.ev 137 (.bool (isT p (p.lv z 0)))) rfl) (fun _ F=>X.move rfl (F.ev 138 (.bool (!(isT p (p.lv z 0)))))) ?_;clear F ac;intro ac F
         cases h19 : isT p (p.lv z 0) with
         | false =>
          try rw [h19] at F
          refine Y.p5 F 5 139 true fun ac F=>Y.pv2 F (X.pickT rfl (F.ev 139 (.bool true)) (X.kc (.bool true) rfl)) (fun _ F=>X.move rfl (F.ev 145 (.bool true))) fun ac F=>Y.p5 F 12 146 true fun ac F=>Y.pv2 F (X.pickT rfl (F.ev 146 (.bool true)) (X.kc (.bool true) rfl)) (fun _ F=>X.move rfl (F.ev 152 (.bool true))) fun ac F=>Y.p3 F 19 153 true fun ac F=>Y.ps F 19 153 true fun ac F=>Y.pv F (X.pickT rfl (F.ev 153 (.bool true)) (X.kc (.bool true) rfl)) ?_;clear F ac;intro ac F
          refine Y.nt F [(1, Vp w.heap.size), (8, Vi z), (158, .bool true)] ?_;clear F ac;intro ac F
          refine Y.cT F 158 ?_
          refine Y.sk F 2 (Vi 32) ?_;clear F ac;intro ac F
          refine Y.ret ?_
          refine X.blockR (X.thenR (X.thenR (X.blockR (X.thenR ?_))))
          exact Y.ret0 (v := Vi 32) F (Y.r1 F) ⟨ret_int (chk_l hbig hall1 hall2 hall3 hi (by rw [talkB]; simp [h19])).symm, G⟩
         | true =>
          try rw [h19] at F
          refine Y.pg F 5 139 false (X.load rfl (F.ev 1 (Vp w.heap.size)) (X.ldN (Try.agg27 _) (Try.siz27 _) (Y.atz (⟨w.heap.size, 0, none⟩) (Y.AtFrom.cons (hC.at 0 rfl) (Y.AtFrom.cons (hC.at 1 rfl) (Y.AtFrom.cons (hC.at 2 rfl) (Y.AtFrom.cons (hC.at 3 rfl) (Y.AtFrom.nil _ _ _)))))))) fun ac F=>Y.pg F 5 139 false (X.field rfl (F.ev 9 (Vp w14.heap.size)) (X.fld Try.underlying84 rfl (Try.siz3 _) rfl rfl)) fun ac F=>Y.pg F 5 139 false (X.load rfl (F.ev 141 (.pointer (some ⟨w14.heap.size, 1, none⟩))) (X.ld1 (Try.agg3 _) (hC.at 8 rfl))) ?_;clear F ac;intro ac F
          refine Y.pcall F (X.w1 rfl (F.yl (j := 5) (d := 139) (b := false) rfl (by kernel_rfl))) rfl (X.enter (F := 61) rfl (X.kc (.func (.func 61) #[] #[]) rfl) (X.a2 (F.ev 140 (.agg #[.slice ta p.nt tc, .slice ha p.nh hc, .slice ba p.nb bc, .slice (some pd16) p.nl lc])) (F.ev 142 (Vi (p.lv z 1)))) (enters_of Try.func61 (by kernel_rfl) rfl _)) (isTask_any p ta ha ba (some pd16) tc hc bc lc (p.lv z 1) w18) ?_
          clear F ac
          rintro e w20 ⟨rfl, g⟩
          refine ⟨_, rfl, ?_⟩
          intro ac F
          replace G := G.trans g
          replace hC := hC.gr g
          replace GB_ := GB_.trans g
          replace GBB_ := GBB_.trans g
          replace GBBB_ := GBBB_.trans g
          replace GBBBB_ := GBBBB_.trans g
          replace hpt := hpt.gr g
          replace hph := hph.gr g
          replace hpb := hpb.gr g
          replace hpl := hpl.gr g
          clear g
          refine Y.pg F 5 139 false (X.notB rfl (F.ev 143 (.bool (isT p (p.lv z 1)))) rfl) fun ac F=>Y.pv2 F (X.pickF rfl (F.ev 139 (.bool false)) (F.ev 144 (.bool (!(isT p (p.lv z 1)))))) (fun _ F=>X.move rfl (F.ev 145 (.bool (!(isT p (p.lv z 1)))))) ?_;clear F ac;intro ac F
          cases h21 : isT p (p.lv z 1) with
          | false =>
           try rw [h21] at F
           refine Y.p5 F 12 146 true fun ac F=>Y.pv2 F (X.pickT rfl (F.ev 146 (.bool true)) (X.kc (.bool true) rfl)) (fun _ F=>X.move rfl (F.ev 152 (.bool true))) fun ac F=>Y.p3 F 19 153 true fun ac F=>Y.ps F 19 153 true fun ac F=>Y.pv F (X.pickT rfl (F.ev 153 (.bool true)) (X.kc (.bool true) rfl)) ?_;clear F ac;intro ac F
           refine Y.nt F [(1, Vp w.heap.size), (8, Vi z), (158, .bool true)] ?_;clear F ac;intro ac F
           refine Y.cT F 158 ?_
           refine Y.sk F 2 (Vi 32) ?_;clear F ac;intro ac F
           refine Y.ret ?_
           refine X.blockR (X.thenR (X.thenR (X.blockR (X.thenR ?_))))
           exact Y.ret0 (v := Vi 32) F (Y.r1 F) ⟨ret_int (chk_l hbig hall1 hall2 hall3 hi (by rw [talkB]; simp [h19, h21])).symm, G⟩
          | true =>
           try rw [h21] at F
           refine Y.pg F 12 146 false (X.field rfl (F.ev 9 (Vp w14.heap.size)) (X.fld Try.underlying84 rfl (Try.siz3 _) rfl rfl)) fun ac F=>Y.pg F 12 146 false (X.load rfl (F.ev 147 (Vp w14.heap.size)) (X.ld1 (Try.agg3 _) (hC.at 7 rfl))) fun ac F=>Y.pg F 12 146 false (X.field rfl (F.ev 9 (Vp w14.heap.size)) (X.fld Try.underlying84 rfl (Try.siz3 _) rfl rfl)) fun ac F=>Y.pg F 12 146 false (X.load rfl (F.ev 149 (.pointer (some ⟨w14.heap.size, 1, none⟩))) (X.ld1 (Try.agg3 _) (hC.at 8 rfl))) fun ac F=>Y.pg F 12 146 false (X.binop rfl (F.ev 148 (Vi (p.lv z 0))) (F.ev 150 (Vi (p.lv z 1))) (X.eqlI Try.underlying3 rfl)) fun ac F=>Y.pv2 F (X.pickF rfl (F.ev 146 (.bool false)) (F.ev 151 (.bool ((p.lv z 0 : Int) == (p.lv z 1))))) (fun _ F=>X.move rfl (F.ev 152 (.bool ((p.lv z 0 : Int) == (p.lv z 1))))) ?_;clear F ac;intro ac F
           cases h22 : ((p.lv z 0 : Int) == (p.lv z 1)) with
           | false =>
            try rw [h22] at F
            have h22p : ¬ (p.lv z 0 : Int) = (p.lv z 1) := by simpa using h22
            refine Y.pg F 19 153 false (X.field rfl (F.ev 9 (Vp w14.heap.size)) (X.fld Try.underlying84 rfl (Try.siz3 _) rfl rfl)) fun ac F=>Y.pg F 19 153 false (X.load rfl (F.ev 154 (.pointer (some ⟨w14.heap.size, 2, none⟩))) (X.ld1 (Try.agg3 _) (hC.at 9 rfl))) ?_;clear F ac;intro ac F
            refine Y.pcall F (X.w1 rfl (F.yl (j := 19) (d := 153) (b := false) rfl (by kernel_rfl))) rfl (X.enter (F := 63) rfl (X.kc (.func (.func 63) #[] #[]) rfl) (X.a1 (F.ev 155 (Vi (p.lv z 2)))) (enters_of Try.func63 (by kernel_rfl) rfl _)) (amount_any (p.lv z 2) w20) ?_
            clear F ac
            rintro e w' ⟨rfl, hw_⟩
            obtain rfl : w20 = w' := hw_.symm
            clear hw_
            refine ⟨_, rfl, ?_⟩
            intro ac F
            refine Y.pg F 19 153 false (X.notB rfl (F.ev 156 (.bool (amtB (p.lv z 2)))) rfl) fun ac F=>Y.pv F (X.pickF rfl (F.ev 153 (.bool false)) (F.ev 157 (.bool (!(amtB (p.lv z 2)))))) ?_;clear F ac;intro ac F
            refine Y.nt F [(1, Vp w.heap.size), (8, Vi z), (158, .bool (!(amtB (p.lv z 2))))] ?_;clear F ac;intro ac F
            cases h23 : amtB (p.lv z 2) with
            | false =>
             try rw [h23] at F
             refine Y.cT F 158 ?_
             refine Y.sk F 2 (Vi 32) ?_;clear F ac;intro ac F
             refine Y.ret ?_
             refine X.blockR (X.thenR (X.thenR (X.blockR (X.thenR ?_))))
             exact Y.ret0 (v := Vi 32) F (Y.r1 F) ⟨ret_int (chk_l hbig hall1 hall2 hall3 hi (by rw [talkB]; simp [h22, h22p, h23, h19, h21])).symm, G⟩
            | true =>
             try rw [h23] at F
             refine Y.cF F 158 ?_
             refine Y.skip ?_
             refine X.blockN (X.thenN ?_)
             refine Y.lg F [(1, Vp w.heap.size), (8, Vi ((z : Int) + 1))] (by
              refine Y.pv F (X.move rfl (F.ev 8 (Vi z))) fun ac F=>?_
              refine Y.pv F (X.binop rfl (F.ev 127 (Vi z)) (X.kc (Vi 1) rfl) (X.addI Try.underlying3 rfl (by omega) (by omega))) fun ac F=>?_
              refine Y.pv F (X.assign rfl (F.ev 128 (Vi ((z : Int) + 1)))) fun ac F=>?_
              exact Y.fin F) ?_;clear F ac;intro ac F
             refine ⟨_, ?_, z + 1, rfl, GBBBB_, by omega, allN_succ hok (by rw [talkB]; simp [h22, h22p, h23, h19, h21]), F.sub _⟩
             omega
           | true =>
            try rw [h22] at F
            have h22p : (p.lv z 0 : Int) = (p.lv z 1) := by simpa using h22
            refine Y.p3 F 19 153 true fun ac F=>Y.ps F 19 153 true fun ac F=>Y.pv F (X.pickT rfl (F.ev 153 (.bool true)) (X.kc (.bool true) rfl)) ?_;clear F ac;intro ac F
            refine Y.nt F [(1, Vp w.heap.size), (8, Vi z), (158, .bool true)] ?_;clear F ac;intro ac F
            refine Y.cT F 158 ?_
            refine Y.sk F 2 (Vi 32) ?_;clear F ac;intro ac F
            refine Y.ret ?_
            refine X.blockR (X.thenR (X.thenR (X.blockR (X.thenR ?_))))
            exact Y.ret0 (v := Vi 32) F (Y.r1 F) ⟨ret_int (chk_l hbig hall1 hall2 hall3 hi (by rw [talkB]; simp [h22, h22p, h19, h21])).symm, G⟩
       | true =>
        try rw [h13] at F
        have h13p : ((k : Int) < p.nb) := of_decide_eq_true h13
        have hi : k < p.nb := by omega
        refine Y.cT F 58 ?_
        refine Y.skip ?_
        refine X.thenN ?_
        refine Y.seq ?_
        refine Y.block ?_
        refine Y.sl ?_
        refine Y.pv3 F (X.field rfl (F.ev 1 (Vp w.heap.size)) (X.fld Try.underlying27 rfl (Try.siz24 _) rfl rfl)) (fun _ F=>X.load rfl (F.ev 61 (.pointer (some ⟨w.heap.size, 2, none⟩))) (X.ld1 (Try.agg24 _) (hC.at 2 rfl))) (fun _ F=>X.move rfl (F.ev 5 (Vi k))) ?_;clear F ac;intro ac F
        obtain ⟨pd24, pe24, -, pc24⟩ := hpb.at (j := k) (by omega)
        subst pe24
        replace hC := hC.append (show RCells w12 (Y.cs (pd24.add (k * 3)) [Vi (p.bv k 0), Vi (p.bv k 1), Vi (p.bv k 2)]) from (RCells.cons (pc24 0 (by decide)) (RCells.cons (pc24 1 (by decide)) (RCells.cons (pc24 2 (by decide)) (RCells.nil _)))))
        clear pc24
        refine Y.pv3 F (X.index rfl (F.ev 62 (.slice (some pd24) p.nb bc)) (F.ev 63 (Vi k)) (X.idx (k := k) Try.underlying24 (Try.siz65 _) (by omega) (by omega) rfl)) (fun _ F=>X.load rfl (F.ev 64 (.pointer (some (pd24.add (k * 3))))) (X.ldN (Try.agg65 _) (Try.siz65 _) (Y.atz (pd24.add (k * 3)) (Y.AtFrom.cons (hC.at 4 rfl) (Y.AtFrom.cons (hC.at 5 rfl) (Y.AtFrom.cons (hC.at 6 rfl) (Y.AtFrom.nil _ _ _))))))) (fun _ F=>Y.al rfl (Try.new65 _)) fun ac F=>Y.punit F (X.w0 rfl) rfl (X.store rfl (F.ev 6 (Vp w12.heap.size)) (F.ev 65 (.agg #[Vi (p.bv k 0), Vi (p.bv k 1), Vi (p.bv k 2)])) (Y.stNew [Vi (p.bv k 0), Vi (p.bv k 1), Vi (p.bv k 2)] [Vi 0, Vi 0, Vi 0] (Try.siz65 _) rfl rfl)) ?_;clear F ac;intro ac F
        obtain ⟨w25, hw_, g, hb, hbl, hC2⟩ := Y.bxd hC #[Vi (p.bv k 0), Vi (p.bv k 1), Vi (p.bv k 2)] 65;rw [hw_];clear hw_
        replace G := G.trans g
        replace hC := hC2
        clear hC2
        replace GB_ := GB_.trans g
        replace GBB_ := GBB_.trans g
        replace GBBB_ := GBBB_.trans g
        replace hpt := hpt.gr g
        replace hph := hph.gr g
        replace hpb := hpb.gr g
        replace hpl := hpl.gr g
        clear g hb hbl
        refine Y.nt F [(1, Vp w.heap.size), (5, Vi k), (6, Vp w12.heap.size)] ?_;clear F ac;intro ac F
        refine Y.sl ?_
        refine Y.pv4 F (X.field rfl (F.ev 6 (Vp w12.heap.size)) (X.fld Try.underlying65 rfl (Try.siz3 _) rfl rfl)) (fun _ F=>X.load rfl (F.ev 66 (Vp w12.heap.size)) (X.ld1 (Try.agg3 _) (hC.at 7 rfl))) (fun _ F=>X.binop rfl (F.ev 67 (Vi (p.bv k 0))) (X.kc (Vi 1) rfl) (X.eqlI Try.underlying3 rfl)) (fun _ F=>X.move rfl (F.ev 68 (.bool ((p.bv k 0 : Int) == 1)))) ?_;clear F ac;intro ac F
        cases h26 : ((p.bv k 0 : Int) == 1) with
        | false =>
         try rw [h26] at F
         have h26p : ¬ (p.bv k 0 : Int) = 1 := by simpa using h26
         refine Y.pg F 3 69 false (X.field rfl (F.ev 6 (Vp w12.heap.size)) (X.fld Try.underlying65 rfl (Try.siz3 _) rfl rfl)) fun ac F=>Y.pg F 3 69 false (X.load rfl (F.ev 70 (Vp w12.heap.size)) (X.ld1 (Try.agg3 _) (hC.at 7 rfl))) fun ac F=>Y.pg F 3 69 false (X.binop rfl (F.ev 71 (Vi (p.bv k 0))) (X.kc (Vi 2) rfl) (X.eqlI Try.underlying3 rfl)) fun ac F=>Y.pv2 F (X.pickF rfl (F.ev 69 (.bool false)) (F.ev 72 (.bool ((p.bv k 0 : Int) == 2)))) (fun _ F=>X.move rfl (F.ev 73 (.bool ((p.bv k 0 : Int) == 2)))) ?_;clear F ac;intro ac F
         cases h27 : ((p.bv k 0 : Int) == 2) with
         | false =>
          try rw [h27] at F
          have h27p : ¬ (p.bv k 0 : Int) = 2 := by simpa using h27
          refine Y.pg F 8 74 false (X.field rfl (F.ev 6 (Vp w12.heap.size)) (X.fld Try.underlying65 rfl (Try.siz3 _) rfl rfl)) fun ac F=>Y.pg F 8 74 false (X.load rfl (F.ev 75 (Vp w12.heap.size)) (X.ld1 (Try.agg3 _) (hC.at 7 rfl))) fun ac F=>Y.pg F 8 74 false (X.binop rfl (F.ev 76 (Vi (p.bv k 0))) (X.kc (Vi 3) rfl) (X.eqlI Try.underlying3 rfl)) fun ac F=>Y.pv2 F (X.pickF rfl (F.ev 74 (.bool false)) (F.ev 77 (.bool ((p.bv k 0 : Int) == 3)))) (fun _ F=>X.assign rfl (F.ev 78 (.bool ((p.bv k 0 : Int) == 3)))) ?_;clear F ac;intro ac F
          refine Y.nt F [(1, Vp w.heap.size), (5, Vi k), (6, Vp w12.heap.size), (7, .bool ((p.bv k 0 : Int) == 3))] ?_;clear F ac;intro ac F
          refine Y.sl ?_
          refine Y.pv4 F (X.field rfl (F.ev 6 (Vp w12.heap.size)) (X.fld Try.underlying65 rfl (Try.siz3 _) rfl rfl)) (fun _ F=>X.load rfl (F.ev 79 (Vp w12.heap.size)) (X.ld1 (Try.agg3 _) (hC.at 7 rfl))) (fun _ F=>X.binop rfl (F.ev 80 (Vi (p.bv k 0))) (X.kc (Vi 1) rfl) (X.lssI Try.underlying3 rfl)) (fun _ F=>X.move rfl (F.ev 81 (.bool (decide ((p.bv k 0 : Int) < 1))))) ?_;clear F ac;intro ac F
          cases h28 : decide ((p.bv k 0 : Int) < 1) with
          | false =>
           try rw [h28] at F
           have h28p : ¬ ((p.bv k 0 : Int) < 1) := of_decide_eq_false h28
           refine Y.pg F 3 82 false (X.field rfl (F.ev 6 (Vp w12.heap.size)) (X.fld Try.underlying65 rfl (Try.siz3 _) rfl rfl)) fun ac F=>Y.pg F 3 82 false (X.load rfl (F.ev 83 (Vp w12.heap.size)) (X.ld1 (Try.agg3 _) (hC.at 7 rfl))) fun ac F=>Y.pg F 3 82 false (X.binop rfl (F.ev 84 (Vi (p.bv k 0))) (X.kc (Vi 5) rfl) (X.gtrI Try.underlying3 rfl)) fun ac F=>Y.pv2 F (X.pickF rfl (F.ev 82 (.bool false)) (F.ev 85 (.bool (decide ((5 : Int) < (p.bv k 0)))))) (fun _ F=>X.move rfl (F.ev 86 (.bool (decide ((5 : Int) < (p.bv k 0)))))) ?_;clear F ac;intro ac F
           cases h29 : decide ((5 : Int) < (p.bv k 0)) with
           | false =>
            try rw [h29] at F
            have h29p : ¬ ((5 : Int) < (p.bv k 0)) := of_decide_eq_false h29
            refine Y.pg F 8 87 false (X.load rfl (F.ev 1 (Vp w.heap.size)) (X.ldN (Try.agg27 _) (Try.siz27 _) (Y.atz (⟨w.heap.size, 0, none⟩) (Y.AtFrom.cons (hC.at 0 rfl) (Y.AtFrom.cons (hC.at 1 rfl) (Y.AtFrom.cons (hC.at 2 rfl) (Y.AtFrom.cons (hC.at 3 rfl) (Y.AtFrom.nil _ _ _)))))))) fun ac F=>Y.pg F 8 87 false (X.field rfl (F.ev 6 (Vp w12.heap.size)) (X.fld Try.underlying65 rfl (Try.siz3 _) rfl rfl)) fun ac F=>Y.pg F 8 87 false (X.load rfl (F.ev 89 (.pointer (some ⟨w12.heap.size, 1, none⟩))) (X.ld1 (Try.agg3 _) (hC.at 8 rfl))) ?_;clear F ac;intro ac F
            refine Y.pcall F (X.w1 rfl (F.yl (j := 8) (d := 87) (b := false) rfl (by kernel_rfl))) rfl (X.enter (F := 61) rfl (X.kc (.func (.func 61) #[] #[]) rfl) (X.a2 (F.ev 88 (.agg #[.slice ta p.nt tc, .slice ha p.nh hc, .slice (some pd24) p.nb bc, .slice la p.nl lc])) (F.ev 90 (Vi (p.bv k 1)))) (enters_of Try.func61 (by kernel_rfl) rfl _)) (isTask_any p ta ha (some pd24) la tc hc bc lc (p.bv k 1) w25) ?_
            clear F ac
            rintro e w30 ⟨rfl, g⟩
            refine ⟨_, rfl, ?_⟩
            intro ac F
            replace G := G.trans g
            replace hC := hC.gr g
            replace GB_ := GB_.trans g
            replace GBB_ := GBB_.trans g
            replace GBBB_ := GBBB_.trans g
            replace hpt := hpt.gr g
            replace hph := hph.gr g
            replace hpb := hpb.gr g
            replace hpl := hpl.gr g
            clear g
            refine Y.pg F 8 87 false (X.notB rfl (F.ev 91 (.bool (isT p (p.bv k 1)))) rfl) fun ac F=>Y.pv2 F (X.pickF rfl (F.ev 87 (.bool false)) (F.ev 92 (.bool (!(isT p (p.bv k 1)))))) (fun _ F=>X.move rfl (F.ev 93 (.bool (!(isT p (p.bv k 1)))))) ?_;clear F ac;intro ac F
            cases h31 : isT p (p.bv k 1) with
            | false =>
             try rw [h31] at F
             refine Y.p2 F 15 94 true fun ac F=>Y.pn F 17 96 fun ac F=>Y.pn F 17 96 fun ac F=>Y.pn F 17 96 fun ac F=>Y.pn F 17 96 fun ac F=>Y.pn F 17 96 fun ac F=>Y.pn F 17 96 fun ac F=>Y.pn F 23 102 fun ac F=>Y.pn F 23 102 fun ac F=>Y.pn F 23 102 fun ac F=>Y.pn F 23 102 fun ac F=>Y.pn F 23 102 fun ac F=>Y.pn F 17 96 fun ac F=>Y.ps F 15 94 true fun ac F=>Y.pv2 F (X.pickT rfl (F.ev 94 (.bool true)) (X.kc (.bool true) rfl)) (fun _ F=>X.move rfl (F.ev 110 (.bool true))) fun ac F=>Y.p3 F 32 111 true fun ac F=>Y.pn F 35 114 fun ac F=>Y.pn F 35 114 fun ac F=>Y.pn F 35 114 fun ac F=>Y.pn F 35 114 fun ac F=>Y.pn F 35 114 fun ac F=>Y.ps F 32 111 true fun ac F=>Y.pv F (X.pickT rfl (F.ev 111 (.bool true)) (X.kc (.bool true) rfl)) ?_;clear F ac;intro ac F
             refine Y.nt F [(1, Vp w.heap.size), (5, Vi k), (121, .bool true)] ?_;clear F ac;intro ac F
             refine Y.cT F 121 ?_
             refine Y.sk F 2 (Vi 32) ?_;clear F ac;intro ac F
             refine Y.ret ?_
             refine X.blockR (X.thenR (X.thenR (X.blockR (X.thenR ?_))))
             exact Y.ret0 (v := Vi 32) F (Y.r1 F) ⟨ret_int (chk_b hbig hall1 hall2 hi (by rw [bond_eq3]; simp [h26, h27, h29, h28, h31])).symm, G⟩
            | true =>
             try rw [h31] at F
             refine Y.pg F 15 94 false (X.move rfl (F.ev 7 (.bool ((p.bv k 0 : Int) == 3)))) fun ac F=>Y.pg F 15 94 false (X.move rfl (F.ev 95 (.bool ((p.bv k 0 : Int) == 3)))) ?_;clear F ac;intro ac F
             cases h32 : ((p.bv k 0 : Int) == 3) with
             | false =>
              try rw [h32] at F
              have h32p : ¬ (p.bv k 0 : Int) = 3 := by simpa using h32
              refine Y.p5 F 17 96 false fun ac F=>Y.ps F 17 96 false fun ac F=>Y.pn F 23 102 fun ac F=>Y.pn F 23 102 fun ac F=>Y.pn F 23 102 fun ac F=>Y.pn F 23 102 fun ac F=>Y.pn F 23 102 fun ac F=>Y.ps F 17 96 false fun ac F=>Y.pg F 15 94 false (X.pickF rfl (F.ev 96 (.bool false)) (X.kc (.bool false) rfl)) fun ac F=>Y.pv2 F (X.pickF rfl (F.ev 94 (.bool false)) (F.ev 109 (.bool false))) (fun _ F=>X.move rfl (F.ev 110 (.bool false))) fun ac F=>Y.pg F 32 111 false (X.move rfl (F.ev 7 (.bool false))) fun ac F=>Y.pg F 32 111 false (X.notB rfl (F.ev 112 (.bool false)) rfl) fun ac F=>Y.pg F 32 111 false (X.move rfl (F.ev 113 (.bool true))) fun ac F=>Y.pg F 35 114 true (X.load rfl (F.ev 1 (Vp w.heap.size)) (X.ldN (Try.agg27 _) (Try.siz27 _) (Y.atz (⟨w.heap.size, 0, none⟩) (Y.AtFrom.cons (hC.at 0 rfl) (Y.AtFrom.cons (hC.at 1 rfl) (Y.AtFrom.cons (hC.at 2 rfl) (Y.AtFrom.cons (hC.at 3 rfl) (Y.AtFrom.nil _ _ _)))))))) fun ac F=>Y.pg F 35 114 true (X.field rfl (F.ev 6 (Vp w12.heap.size)) (X.fld Try.underlying65 rfl (Try.siz3 _) rfl rfl)) fun ac F=>Y.pg F 35 114 true (X.load rfl (F.ev 116 (.pointer (some ⟨w12.heap.size, 2, none⟩))) (X.ld1 (Try.agg3 _) (hC.at 9 rfl))) ?_;clear F ac;intro ac F
              refine Y.pcall F (X.w1 rfl (F.yl (j := 35) (d := 114) (b := true) rfl (by kernel_rfl))) rfl (X.enter (F := 62) rfl (X.kc (.func (.func 62) #[] #[]) rfl) (X.a2 (F.ev 115 (.agg #[.slice ta p.nt tc, .slice ha p.nh hc, .slice (some pd24) p.nb bc, .slice la p.nl lc])) (F.ev 117 (Vi (p.bv k 2)))) (enters_of Try.func62 (by kernel_rfl) rfl _)) (isHost_any p ta ha (some pd24) la tc hc bc lc (p.bv k 2) w30) ?_
              clear F ac
              rintro e w33 ⟨rfl, g⟩
              refine ⟨_, rfl, ?_⟩
              intro ac F
              replace G := G.trans g
              replace hC := hC.gr g
              replace GB_ := GB_.trans g
              replace GBB_ := GBB_.trans g
              replace GBBB_ := GBBB_.trans g
              replace hpt := hpt.gr g
              replace hph := hph.gr g
              replace hpb := hpb.gr g
              replace hpl := hpl.gr g
              clear g
              refine Y.pg F 35 114 true (X.notB rfl (F.ev 118 (.bool (isH p (p.bv k 2)))) rfl) fun ac F=>Y.pg F 32 111 false (X.pickT rfl (F.ev 114 (.bool true)) (F.ev 119 (.bool (!(isH p (p.bv k 2)))))) fun ac F=>Y.pv F (X.pickF rfl (F.ev 111 (.bool false)) (F.ev 120 (.bool (!(isH p (p.bv k 2)))))) ?_;clear F ac;intro ac F
              refine Y.nt F [(1, Vp w.heap.size), (5, Vi k), (121, .bool (!(isH p (p.bv k 2))))] ?_;clear F ac;intro ac F
              cases h34 : isH p (p.bv k 2) with
              | false =>
               try rw [h34] at F
               refine Y.cT F 121 ?_
               refine Y.sk F 2 (Vi 32) ?_;clear F ac;intro ac F
               refine Y.ret ?_
               refine X.blockR (X.thenR (X.thenR (X.blockR (X.thenR ?_))))
               exact Y.ret0 (v := Vi 32) F (Y.r1 F) ⟨ret_int (chk_b hbig hall1 hall2 hi (by rw [bond_eq3]; simp [h26, h27, h32, h29, h28, h34, h31])).symm, G⟩
              | true =>
               try rw [h34] at F
               refine Y.cF F 121 ?_
               refine Y.skip ?_
               refine X.blockN (X.thenN ?_)
               refine Y.lg F [(1, Vp w.heap.size), (5, Vi ((k : Int) + 1))] (by
                refine Y.pv F (X.move rfl (F.ev 5 (Vi k))) fun ac F=>?_
                refine Y.pv F (X.binop rfl (F.ev 59 (Vi k)) (X.kc (Vi 1) rfl) (X.addI Try.underlying3 rfl (by omega) (by omega))) fun ac F=>?_
                refine Y.pv F (X.assign rfl (F.ev 60 (Vi ((k : Int) + 1)))) fun ac F=>?_
                exact Y.fin F) ?_;clear F ac;intro ac F
               refine ⟨_, ?_, k + 1, rfl, GBBB_, by omega, allN_succ hok (by rw [bond_eq3]; simp [h26, h27, h32, h29, h28, h34, h31]), F.sub _⟩
               omega
             | true =>
              try rw [h32] at F
              have h32p : (p.bv k 0 : Int) = 3 := by simpa using h32
              refine Y.pg F 17 96 true (X.load rfl (F.ev 1 (Vp w.heap.size)) (X.ldN (Try.agg27 _) (Try.siz27 _) (Y.atz (⟨w.heap.size, 0, none⟩) (Y.AtFrom.cons (hC.at 0 rfl) (Y.AtFrom.cons (hC.at 1 rfl) (Y.AtFrom.cons (hC.at 2 rfl) (Y.AtFrom.cons (hC.at 3 rfl) (Y.AtFrom.nil _ _ _)))))))) fun ac F=>Y.pg F 17 96 true (X.field rfl (F.ev 6 (Vp w12.heap.size)) (X.fld Try.underlying65 rfl (Try.siz3 _) rfl rfl)) fun ac F=>Y.pg F 17 96 true (X.load rfl (F.ev 98 (.pointer (some ⟨w12.heap.size, 2, none⟩))) (X.ld1 (Try.agg3 _) (hC.at 9 rfl))) ?_;clear F ac;intro ac F
              refine Y.pcall F (X.w1 rfl (F.yl (j := 17) (d := 96) (b := true) rfl (by kernel_rfl))) rfl (X.enter (F := 61) rfl (X.kc (.func (.func 61) #[] #[]) rfl) (X.a2 (F.ev 97 (.agg #[.slice ta p.nt tc, .slice ha p.nh hc, .slice (some pd24) p.nb bc, .slice la p.nl lc])) (F.ev 99 (Vi (p.bv k 2)))) (enters_of Try.func61 (by kernel_rfl) rfl _)) (isTask_any p ta ha (some pd24) la tc hc bc lc (p.bv k 2) w30) ?_
              clear F ac
              rintro e w35 ⟨rfl, g⟩
              refine ⟨_, rfl, ?_⟩
              intro ac F
              replace G := G.trans g
              replace hC := hC.gr g
              replace GB_ := GB_.trans g
              replace GBB_ := GBB_.trans g
              replace GBBB_ := GBBB_.trans g
              replace hpt := hpt.gr g
              replace hph := hph.gr g
              replace hpb := hpb.gr g
              replace hpl := hpl.gr g
              clear g
              refine Y.pg F 17 96 true (X.notB rfl (F.ev 100 (.bool (isT p (p.bv k 2)))) rfl) fun ac F=>Y.pg F 17 96 true (X.move rfl (F.ev 101 (.bool (!(isT p (p.bv k 2)))))) ?_;clear F ac;intro ac F
              cases h36 : isT p (p.bv k 2) with
              | false =>
               try rw [h36] at F
               refine Y.p5 F 23 102 true fun ac F=>Y.pg F 17 96 true (X.pickT rfl (F.ev 102 (.bool true)) (X.kc (.bool true) rfl)) fun ac F=>Y.pg F 15 94 false (X.pickT rfl (F.ev 96 (.bool true)) (F.ev 108 (.bool true))) fun ac F=>Y.pv2 F (X.pickF rfl (F.ev 94 (.bool false)) (F.ev 109 (.bool true))) (fun _ F=>X.move rfl (F.ev 110 (.bool true))) fun ac F=>Y.p3 F 32 111 true fun ac F=>Y.pn F 35 114 fun ac F=>Y.pn F 35 114 fun ac F=>Y.pn F 35 114 fun ac F=>Y.pn F 35 114 fun ac F=>Y.pn F 35 114 fun ac F=>Y.ps F 32 111 true fun ac F=>Y.pv F (X.pickT rfl (F.ev 111 (.bool true)) (X.kc (.bool true) rfl)) ?_;clear F ac;intro ac F
               refine Y.nt F [(1, Vp w.heap.size), (5, Vi k), (121, .bool true)] ?_;clear F ac;intro ac F
               refine Y.cT F 121 ?_
               refine Y.sk F 2 (Vi 32) ?_;clear F ac;intro ac F
               refine Y.ret ?_
               refine X.blockR (X.thenR (X.thenR (X.blockR (X.thenR ?_))))
               exact Y.ret0 (v := Vi 32) F (Y.r1 F) ⟨ret_int (chk_b hbig hall1 hall2 hi (by rw [bond_eq3]; simp [h26, h27, h32, h29, h28, h31, h36])).symm, G⟩
              | true =>
               try rw [h36] at F
               refine Y.pg F 23 102 false (X.field rfl (F.ev 6 (Vp w12.heap.size)) (X.fld Try.underlying65 rfl (Try.siz3 _) rfl rfl)) fun ac F=>Y.pg F 23 102 false (X.load rfl (F.ev 103 (.pointer (some ⟨w12.heap.size, 1, none⟩))) (X.ld1 (Try.agg3 _) (hC.at 8 rfl))) fun ac F=>Y.pg F 23 102 false (X.field rfl (F.ev 6 (Vp w12.heap.size)) (X.fld Try.underlying65 rfl (Try.siz3 _) rfl rfl)) fun ac F=>Y.pg F 23 102 false (X.load rfl (F.ev 105 (.pointer (some ⟨w12.heap.size, 2, none⟩))) (X.ld1 (Try.agg3 _) (hC.at 9 rfl))) fun ac F=>Y.pg F 23 102 false (X.binop rfl (F.ev 104 (Vi (p.bv k 1))) (F.ev 106 (Vi (p.bv k 2))) (X.eqlI Try.underlying3 rfl)) fun ac F=>Y.pg F 17 96 true (X.pickF rfl (F.ev 102 (.bool false)) (F.ev 107 (.bool ((p.bv k 1 : Int) == (p.bv k 2))))) fun ac F=>Y.pg F 15 94 false (X.pickT rfl (F.ev 96 (.bool true)) (F.ev 108 (.bool ((p.bv k 1 : Int) == (p.bv k 2))))) fun ac F=>Y.pv2 F (X.pickF rfl (F.ev 94 (.bool false)) (F.ev 109 (.bool ((p.bv k 1 : Int) == (p.bv k 2))))) (fun _ F=>X.move rfl (F.ev 110 (.bool ((p.bv k 1 : Int) == (p.bv k 2))))) ?_;clear F ac;intro ac F
               cases h37 : ((p.bv k 1 : Int) == (p.bv k 2)) with
               | false =>
                try rw [h37] at F
                have h37p : ¬ (p.bv k 1 : Int) = (p.bv k 2) := by simpa using h37
                refine Y.pg F 32 111 false (X.move rfl (F.ev 7 (.bool true))) fun ac F=>Y.pg F 32 111 false (X.notB rfl (F.ev 112 (.bool true)) rfl) fun ac F=>Y.pg F 32 111 false (X.move rfl (F.ev 113 (.bool false))) fun ac F=>Y.p5 F 35 114 false fun ac F=>Y.pg F 32 111 false (X.pickF rfl (F.ev 114 (.bool false)) (X.kc (.bool false) rfl)) fun ac F=>Y.pv F (X.pickF rfl (F.ev 111 (.bool false)) (F.ev 120 (.bool false))) ?_;clear F ac;intro ac F
                refine Y.nt F [(1, Vp w.heap.size), (5, Vi k), (121, .bool false)] ?_;clear F ac;intro ac F
                refine Y.cF F 121 ?_
                refine Y.skip ?_
                refine X.blockN (X.thenN ?_)
                refine Y.lg F [(1, Vp w.heap.size), (5, Vi ((k : Int) + 1))] (by
                 refine Y.pv F (X.move rfl (F.ev 5 (Vi k))) fun ac F=>?_
                 refine Y.pv F (X.binop rfl (F.ev 59 (Vi k)) (X.kc (Vi 1) rfl) (X.addI Try.underlying3 rfl (by omega) (by omega))) fun ac F=>?_
                 refine Y.pv F (X.assign rfl (F.ev 60 (Vi ((k : Int) + 1)))) fun ac F=>?_
                 exact Y.fin F) ?_;clear F ac;intro ac F
                refine ⟨_, ?_, k + 1, rfl, GBBB_, by omega, allN_succ hok (by rw [bond_eq3]; simp [h26, h27, h32, h37, h29, h28, h31, h36]), F.sub _⟩
                omega
               | true =>
                try rw [h37] at F
                have h37p : (p.bv k 1 : Int) = (p.bv k 2) := by simpa using h37
                refine Y.p3 F 32 111 true fun ac F=>Y.pn F 35 114 fun ac F=>Y.pn F 35 114 fun ac F=>Y.pn F 35 114 fun ac F=>Y.pn F 35 114 fun ac F=>Y.pn F 35 114 fun ac F=>Y.ps F 32 111 true fun ac F=>Y.pv F (X.pickT rfl (F.ev 111 (.bool true)) (X.kc (.bool true) rfl)) ?_;clear F ac;intro ac F
                refine Y.nt F [(1, Vp w.heap.size), (5, Vi k), (121, .bool true)] ?_;clear F ac;intro ac F
                refine Y.cT F 121 ?_
                refine Y.sk F 2 (Vi 32) ?_;clear F ac;intro ac F
                refine Y.ret ?_
                refine X.blockR (X.thenR (X.thenR (X.blockR (X.thenR ?_))))
                exact Y.ret0 (v := Vi 32) F (Y.r1 F) ⟨ret_int (chk_b hbig hall1 hall2 hi (by rw [bond_eq3]; simp [h26, h27, h32, h37, h29, h28, h31, h36])).symm, G⟩
           | true =>
            try rw [h29] at F
            have h29p : ((5 : Int) < (p.bv k 0)) := of_decide_eq_true h29
            refine Y.p5 F 8 87 true fun ac F=>Y.pv2 F (X.pickT rfl (F.ev 87 (.bool true)) (X.kc (.bool true) rfl)) (fun _ F=>X.move rfl (F.ev 93 (.bool true))) fun ac F=>Y.p2 F 15 94 true fun ac F=>Y.pn F 17 96 fun ac F=>Y.pn F 17 96 fun ac F=>Y.pn F 17 96 fun ac F=>Y.pn F 17 96 fun ac F=>Y.pn F 17 96 fun ac F=>Y.pn F 17 96 fun ac F=>Y.pn F 23 102 fun ac F=>Y.pn F 23 102 fun ac F=>Y.pn F 23 102 fun ac F=>Y.pn F 23 102 fun ac F=>Y.pn F 23 102 fun ac F=>Y.pn F 17 96 fun ac F=>Y.ps F 15 94 true fun ac F=>Y.pv2 F (X.pickT rfl (F.ev 94 (.bool true)) (X.kc (.bool true) rfl)) (fun _ F=>X.move rfl (F.ev 110 (.bool true))) fun ac F=>Y.p3 F 32 111 true fun ac F=>Y.pn F 35 114 fun ac F=>Y.pn F 35 114 fun ac F=>Y.pn F 35 114 fun ac F=>Y.pn F 35 114 fun ac F=>Y.pn F 35 114 fun ac F=>Y.ps F 32 111 true fun ac F=>Y.pv F (X.pickT rfl (F.ev 111 (.bool true)) (X.kc (.bool true) rfl)) ?_;clear F ac;intro ac F
            refine Y.nt F [(1, Vp w.heap.size), (5, Vi k), (121, .bool true)] ?_;clear F ac;intro ac F
            refine Y.cT F 121 ?_
            refine Y.sk F 2 (Vi 32) ?_;clear F ac;intro ac F
            refine Y.ret ?_
            refine X.blockR (X.thenR (X.thenR (X.blockR (X.thenR ?_))))
            exact Y.ret0 (v := Vi 32) F (Y.r1 F) ⟨ret_int (chk_b hbig hall1 hall2 hi (by rw [bond_eq3]; simp [h26, h27, h29, h28])).symm, G⟩
          | true =>
           try rw [h28] at F
           have h28p : ((p.bv k 0 : Int) < 1) := of_decide_eq_true h28
           refine Y.p3 F 3 82 true fun ac F=>Y.pv2 F (X.pickT rfl (F.ev 82 (.bool true)) (X.kc (.bool true) rfl)) (fun _ F=>X.move rfl (F.ev 86 (.bool true))) fun ac F=>Y.p5 F 8 87 true fun ac F=>Y.pv2 F (X.pickT rfl (F.ev 87 (.bool true)) (X.kc (.bool true) rfl)) (fun _ F=>X.move rfl (F.ev 93 (.bool true))) fun ac F=>Y.p2 F 15 94 true fun ac F=>Y.pn F 17 96 fun ac F=>Y.pn F 17 96 fun ac F=>Y.pn F 17 96 fun ac F=>Y.pn F 17 96 fun ac F=>Y.pn F 17 96 fun ac F=>Y.pn F 17 96 fun ac F=>Y.pn F 23 102 fun ac F=>Y.pn F 23 102 fun ac F=>Y.pn F 23 102 fun ac F=>Y.pn F 23 102 fun ac F=>Y.pn F 23 102 fun ac F=>Y.pn F 17 96 fun ac F=>Y.ps F 15 94 true fun ac F=>Y.pv2 F (X.pickT rfl (F.ev 94 (.bool true)) (X.kc (.bool true) rfl)) (fun _ F=>X.move rfl (F.ev 110 (.bool true))) fun ac F=>Y.p3 F 32 111 true fun ac F=>Y.pn F 35 114 fun ac F=>Y.pn F 35 114 fun ac F=>Y.pn F 35 114 fun ac F=>Y.pn F 35 114 fun ac F=>Y.pn F 35 114 fun ac F=>Y.ps F 32 111 true fun ac F=>Y.pv F (X.pickT rfl (F.ev 111 (.bool true)) (X.kc (.bool true) rfl)) ?_;clear F ac;intro ac F
           refine Y.nt F [(1, Vp w.heap.size), (5, Vi k), (121, .bool true)] ?_;clear F ac;intro ac F
           refine Y.cT F 121 ?_
           refine Y.sk F 2 (Vi 32) ?_;clear F ac;intro ac F
           refine Y.ret ?_
           refine X.blockR (X.thenR (X.thenR (X.blockR (X.thenR ?_))))
           exact Y.ret0 (v := Vi 32) F (Y.r1 F) ⟨ret_int (chk_b hbig hall1 hall2 hi (by rw [bond_eq3]; simp [h26, h27, h28])).symm, G⟩
         | true =>
          try rw [h27] at F
          have h27p : (p.bv k 0 : Int) = 2 := by simpa using h27
          refine Y.p3 F 8 74 true fun ac F=>Y.pv2 F (X.pickT rfl (F.ev 74 (.bool true)) (X.kc (.bool true) rfl)) (fun _ F=>X.assign rfl (F.ev 78 (.bool true))) ?_;clear F ac;intro ac F
          refine Y.nt F [(1, Vp w.heap.size), (5, Vi k), (6, Vp w12.heap.size), (7, .bool true)] ?_;clear F ac;intro ac F
          refine Y.sl ?_
          refine Y.pv4 F (X.field rfl (F.ev 6 (Vp w12.heap.size)) (X.fld Try.underlying65 rfl (Try.siz3 _) rfl rfl)) (fun _ F=>X.load rfl (F.ev 79 (Vp w12.heap.size)) (X.ld1 (Try.agg3 _) (hC.at 7 rfl))) (fun _ F=>X.binop rfl (F.ev 80 (Vi (p.bv k 0))) (X.kc (Vi 1) rfl) (X.lssI Try.underlying3 rfl)) (fun _ F=>X.move rfl (F.ev 81 (.bool (decide ((p.bv k 0 : Int) < 1))))) ?_;clear F ac;intro ac F
          have h39 : decide ((p.bv k 0 : Int) < 1) = false := decide_eq_false (by have hq := h27p; omega)
          have h39p : ¬ ((p.bv k 0 : Int) < 1) := of_decide_eq_false h39
          try rw [h39] at F
          refine Y.pg F 3 82 false (X.field rfl (F.ev 6 (Vp w12.heap.size)) (X.fld Try.underlying65 rfl (Try.siz3 _) rfl rfl)) fun ac F=>Y.pg F 3 82 false (X.load rfl (F.ev 83 (Vp w12.heap.size)) (X.ld1 (Try.agg3 _) (hC.at 7 rfl))) fun ac F=>Y.pg F 3 82 false (X.binop rfl (F.ev 84 (Vi (p.bv k 0))) (X.kc (Vi 5) rfl) (X.gtrI Try.underlying3 rfl)) fun ac F=>Y.pv2 F (X.pickF rfl (F.ev 82 (.bool false)) (F.ev 85 (.bool (decide ((5 : Int) < (p.bv k 0)))))) (fun _ F=>X.move rfl (F.ev 86 (.bool (decide ((5 : Int) < (p.bv k 0)))))) ?_;clear F ac;intro ac F
          have h41 : decide ((5 : Int) < (p.bv k 0)) = false := decide_eq_false (by have hq := h27p; omega)
          have h41p : ¬ ((5 : Int) < (p.bv k 0)) := of_decide_eq_false h41
          try rw [h41] at F
          refine Y.pg F 8 87 false (X.load rfl (F.ev 1 (Vp w.heap.size)) (X.ldN (Try.agg27 _) (Try.siz27 _) (Y.atz (⟨w.heap.size, 0, none⟩) (Y.AtFrom.cons (hC.at 0 rfl) (Y.AtFrom.cons (hC.at 1 rfl) (Y.AtFrom.cons (hC.at 2 rfl) (Y.AtFrom.cons (hC.at 3 rfl) (Y.AtFrom.nil _ _ _)))))))) fun ac F=>Y.pg F 8 87 false (X.field rfl (F.ev 6 (Vp w12.heap.size)) (X.fld Try.underlying65 rfl (Try.siz3 _) rfl rfl)) fun ac F=>Y.pg F 8 87 false (X.load rfl (F.ev 89 (.pointer (some ⟨w12.heap.size, 1, none⟩))) (X.ld1 (Try.agg3 _) (hC.at 8 rfl))) ?_;clear F ac;intro ac F
          refine Y.pcall F (X.w1 rfl (F.yl (j := 8) (d := 87) (b := false) rfl (by kernel_rfl))) rfl (X.enter (F := 61) rfl (X.kc (.func (.func 61) #[] #[]) rfl) (X.a2 (F.ev 88 (.agg #[.slice ta p.nt tc, .slice ha p.nh hc, .slice (some pd24) p.nb bc, .slice la p.nl lc])) (F.ev 90 (Vi (p.bv k 1)))) (enters_of Try.func61 (by kernel_rfl) rfl _)) (isTask_any p ta ha (some pd24) la tc hc bc lc (p.bv k 1) w25) ?_
          clear F ac
          rintro e w42 ⟨rfl, g⟩
          refine ⟨_, rfl, ?_⟩
          intro ac F
          replace G := G.trans g
          replace hC := hC.gr g
          replace GB_ := GB_.trans g
          replace GBB_ := GBB_.trans g
          replace GBBB_ := GBBB_.trans g
          replace hpt := hpt.gr g
          replace hph := hph.gr g
          replace hpb := hpb.gr g
          replace hpl := hpl.gr g
          clear g
          refine Y.pg F 8 87 false (X.notB rfl (F.ev 91 (.bool (isT p (p.bv k 1)))) rfl) fun ac F=>Y.pv2 F (X.pickF rfl (F.ev 87 (.bool false)) (F.ev 92 (.bool (!(isT p (p.bv k 1)))))) (fun _ F=>X.move rfl (F.ev 93 (.bool (!(isT p (p.bv k 1)))))) ?_;clear F ac;intro ac F
          cases h43 : isT p (p.bv k 1) with
          | false =>
           try rw [h43] at F
           refine Y.p2 F 15 94 true fun ac F=>Y.pn F 17 96 fun ac F=>Y.pn F 17 96 fun ac F=>Y.pn F 17 96 fun ac F=>Y.pn F 17 96 fun ac F=>Y.pn F 17 96 fun ac F=>Y.pn F 17 96 fun ac F=>Y.pn F 23 102 fun ac F=>Y.pn F 23 102 fun ac F=>Y.pn F 23 102 fun ac F=>Y.pn F 23 102 fun ac F=>Y.pn F 23 102 fun ac F=>Y.pn F 17 96 fun ac F=>Y.ps F 15 94 true fun ac F=>Y.pv2 F (X.pickT rfl (F.ev 94 (.bool true)) (X.kc (.bool true) rfl)) (fun _ F=>X.move rfl (F.ev 110 (.bool true))) fun ac F=>Y.p3 F 32 111 true fun ac F=>Y.pn F 35 114 fun ac F=>Y.pn F 35 114 fun ac F=>Y.pn F 35 114 fun ac F=>Y.pn F 35 114 fun ac F=>Y.pn F 35 114 fun ac F=>Y.ps F 32 111 true fun ac F=>Y.pv F (X.pickT rfl (F.ev 111 (.bool true)) (X.kc (.bool true) rfl)) ?_;clear F ac;intro ac F
           refine Y.nt F [(1, Vp w.heap.size), (5, Vi k), (121, .bool true)] ?_;clear F ac;intro ac F
           refine Y.cT F 121 ?_
           refine Y.sk F 2 (Vi 32) ?_;clear F ac;intro ac F
           refine Y.ret ?_
           refine X.blockR (X.thenR (X.thenR (X.blockR (X.thenR ?_))))
           exact Y.ret0 (v := Vi 32) F (Y.r1 F) ⟨ret_int (chk_b hbig hall1 hall2 hi (by rw [bond_eq3]; simp [h26, h27, h41, h39, h43])).symm, G⟩
          | true =>
           try rw [h43] at F
           refine Y.pg F 15 94 false (X.move rfl (F.ev 7 (.bool true))) fun ac F=>Y.pg F 15 94 false (X.move rfl (F.ev 95 (.bool true))) fun ac F=>Y.pg F 17 96 true (X.load rfl (F.ev 1 (Vp w.heap.size)) (X.ldN (Try.agg27 _) (Try.siz27 _) (Y.atz (⟨w.heap.size, 0, none⟩) (Y.AtFrom.cons (hC.at 0 rfl) (Y.AtFrom.cons (hC.at 1 rfl) (Y.AtFrom.cons (hC.at 2 rfl) (Y.AtFrom.cons (hC.at 3 rfl) (Y.AtFrom.nil _ _ _)))))))) fun ac F=>Y.pg F 17 96 true (X.field rfl (F.ev 6 (Vp w12.heap.size)) (X.fld Try.underlying65 rfl (Try.siz3 _) rfl rfl)) fun ac F=>Y.pg F 17 96 true (X.load rfl (F.ev 98 (.pointer (some ⟨w12.heap.size, 2, none⟩))) (X.ld1 (Try.agg3 _) (hC.at 9 rfl))) ?_;clear F ac;intro ac F
           refine Y.pcall F (X.w1 rfl (F.yl (j := 17) (d := 96) (b := true) rfl (by kernel_rfl))) rfl (X.enter (F := 61) rfl (X.kc (.func (.func 61) #[] #[]) rfl) (X.a2 (F.ev 97 (.agg #[.slice ta p.nt tc, .slice ha p.nh hc, .slice (some pd24) p.nb bc, .slice la p.nl lc])) (F.ev 99 (Vi (p.bv k 2)))) (enters_of Try.func61 (by kernel_rfl) rfl _)) (isTask_any p ta ha (some pd24) la tc hc bc lc (p.bv k 2) w42) ?_
           clear F ac
           rintro e w44 ⟨rfl, g⟩
           refine ⟨_, rfl, ?_⟩
           intro ac F
           replace G := G.trans g
           replace hC := hC.gr g
           replace GB_ := GB_.trans g
           replace GBB_ := GBB_.trans g
           replace GBBB_ := GBBB_.trans g
           replace hpt := hpt.gr g
           replace hph := hph.gr g
           replace hpb := hpb.gr g
           replace hpl := hpl.gr g
           clear g
           refine Y.pg F 17 96 true (X.notB rfl (F.ev 100 (.bool (isT p (p.bv k 2)))) rfl) fun ac F=>Y.pg F 17 96 true (X.move rfl (F.ev 101 (.bool (!(isT p (p.bv k 2)))))) ?_;clear F ac;intro ac F
           cases h45 : isT p (p.bv k 2) with
           | false =>
            try rw [h45] at F
            refine Y.p5 F 23 102 true fun ac F=>Y.pg F 17 96 true (X.pickT rfl (F.ev 102 (.bool true)) (X.kc (.bool true) rfl)) fun ac F=>Y.pg F 15 94 false (X.pickT rfl (F.ev 96 (.bool true)) (F.ev 108 (.bool true))) fun ac F=>Y.pv2 F (X.pickF rfl (F.ev 94 (.bool false)) (F.ev 109 (.bool true))) (fun _ F=>X.move rfl (F.ev 110 (.bool true))) fun ac F=>Y.p3 F 32 111 true fun ac F=>Y.pn F 35 114 fun ac F=>Y.pn F 35 114 fun ac F=>Y.pn F 35 114 fun ac F=>Y.pn F 35 114 fun ac F=>Y.pn F 35 114 fun ac F=>Y.ps F 32 111 true fun ac F=>Y.pv F (X.pickT rfl (F.ev 111 (.bool true)) (X.kc (.bool true) rfl)) ?_;clear F ac;intro ac F
            refine Y.nt F [(1, Vp w.heap.size), (5, Vi k), (121, .bool true)] ?_;clear F ac;intro ac F
            refine Y.cT F 121 ?_
            refine Y.sk F 2 (Vi 32) ?_;clear F ac;intro ac F
            refine Y.ret ?_
            refine X.blockR (X.thenR (X.thenR (X.blockR (X.thenR ?_))))
            exact Y.ret0 (v := Vi 32) F (Y.r1 F) ⟨ret_int (chk_b hbig hall1 hall2 hi (by rw [bond_eq3]; simp [h26, h27, h41, h39, h43, h45])).symm, G⟩
           | true =>
            try rw [h45] at F
            refine Y.pg F 23 102 false (X.field rfl (F.ev 6 (Vp w12.heap.size)) (X.fld Try.underlying65 rfl (Try.siz3 _) rfl rfl)) fun ac F=>Y.pg F 23 102 false (X.load rfl (F.ev 103 (.pointer (some ⟨w12.heap.size, 1, none⟩))) (X.ld1 (Try.agg3 _) (hC.at 8 rfl))) fun ac F=>Y.pg F 23 102 false (X.field rfl (F.ev 6 (Vp w12.heap.size)) (X.fld Try.underlying65 rfl (Try.siz3 _) rfl rfl)) fun ac F=>Y.pg F 23 102 false (X.load rfl (F.ev 105 (.pointer (some ⟨w12.heap.size, 2, none⟩))) (X.ld1 (Try.agg3 _) (hC.at 9 rfl))) fun ac F=>Y.pg F 23 102 false (X.binop rfl (F.ev 104 (Vi (p.bv k 1))) (F.ev 106 (Vi (p.bv k 2))) (X.eqlI Try.underlying3 rfl)) fun ac F=>Y.pg F 17 96 true (X.pickF rfl (F.ev 102 (.bool false)) (F.ev 107 (.bool ((p.bv k 1 : Int) == (p.bv k 2))))) fun ac F=>Y.pg F 15 94 false (X.pickT rfl (F.ev 96 (.bool true)) (F.ev 108 (.bool ((p.bv k 1 : Int) == (p.bv k 2))))) fun ac F=>Y.pv2 F (X.pickF rfl (F.ev 94 (.bool false)) (F.ev 109 (.bool ((p.bv k 1 : Int) == (p.bv k 2))))) (fun _ F=>X.move rfl (F.ev 110 (.bool ((p.bv k 1 : Int) == (p.bv k 2))))) ?_;clear F ac;intro ac F
            cases h46 : ((p.bv k 1 : Int) == (p.bv k 2)) with
            | false =>
             try rw [h46] at F
             have h46p : ¬ (p.bv k 1 : Int) = (p.bv k 2) := by simpa using h46
             refine Y.pg F 32 111 false (X.move rfl (F.ev 7 (.bool true))) fun ac F=>Y.pg F 32 111 false (X.notB rfl (F.ev 112 (.bool true)) rfl) fun ac F=>Y.pg F 32 111 false (X.move rfl (F.ev 113 (.bool false))) fun ac F=>Y.p5 F 35 114 false fun ac F=>Y.pg F 32 111 false (X.pickF rfl (F.ev 114 (.bool false)) (X.kc (.bool false) rfl)) fun ac F=>Y.pv F (X.pickF rfl (F.ev 111 (.bool false)) (F.ev 120 (.bool false))) ?_;clear F ac;intro ac F
             refine Y.nt F [(1, Vp w.heap.size), (5, Vi k), (121, .bool false)] ?_;clear F ac;intro ac F
             refine Y.cF F 121 ?_
             refine Y.skip ?_
             refine X.blockN (X.thenN ?_)
             refine Y.lg F [(1, Vp w.heap.size), (5, Vi ((k : Int) + 1))] (by
              refine Y.pv F (X.move rfl (F.ev 5 (Vi k))) fun ac F=>?_
              refine Y.pv F (X.binop rfl (F.ev 59 (Vi k)) (X.kc (Vi 1) rfl) (X.addI Try.underlying3 rfl (by omega) (by omega))) fun ac F=>?_
              refine Y.pv F (X.assign rfl (F.ev 60 (Vi ((k : Int) + 1)))) fun ac F=>?_
              exact Y.fin F) ?_;clear F ac;intro ac F
             refine ⟨_, ?_, k + 1, rfl, GBBB_, by omega, allN_succ hok (by rw [bond_eq3]; simp [h26, h27, h46, h41, h39, h43, h45]), F.sub _⟩
             omega
            | true =>
             try rw [h46] at F
             have h46p : (p.bv k 1 : Int) = (p.bv k 2) := by simpa using h46
             refine Y.p3 F 32 111 true fun ac F=>Y.pn F 35 114 fun ac F=>Y.pn F 35 114 fun ac F=>Y.pn F 35 114 fun ac F=>Y.pn F 35 114 fun ac F=>Y.pn F 35 114 fun ac F=>Y.ps F 32 111 true fun ac F=>Y.pv F (X.pickT rfl (F.ev 111 (.bool true)) (X.kc (.bool true) rfl)) ?_;clear F ac;intro ac F
             refine Y.nt F [(1, Vp w.heap.size), (5, Vi k), (121, .bool true)] ?_;clear F ac;intro ac F
             refine Y.cT F 121 ?_
             refine Y.sk F 2 (Vi 32) ?_;clear F ac;intro ac F
             refine Y.ret ?_
             refine X.blockR (X.thenR (X.thenR (X.blockR (X.thenR ?_))))
             exact Y.ret0 (v := Vi 32) F (Y.r1 F) ⟨ret_int (chk_b hbig hall1 hall2 hi (by rw [bond_eq3]; simp [h26, h27, h46, h41, h39, h43, h45])).symm, G⟩
        | true =>
         try rw [h26] at F
         have h26p : (p.bv k 0 : Int) = 1 := by simpa using h26
         refine Y.p3 F 3 69 true fun ac F=>Y.pv2 F (X.pickT rfl (F.ev 69 (.bool true)) (X.kc (.bool true) rfl)) (fun _ F=>X.move rfl (F.ev 73 (.bool true))) fun ac F=>Y.p3 F 8 74 true fun ac F=>Y.pv2 F (X.pickT rfl (F.ev 74 (.bool true)) (X.kc (.bool true) rfl)) (fun _ F=>X.assign rfl (F.ev 78 (.bool true))) ?_;clear F ac;intro ac F
         refine Y.nt F [(1, Vp w.heap.size), (5, Vi k), (6, Vp w12.heap.size), (7, .bool true)] ?_;clear F ac;intro ac F
         refine Y.sl ?_
         refine Y.pv4 F (X.field rfl (F.ev 6 (Vp w12.heap.size)) (X.fld Try.underlying65 rfl (Try.siz3 _) rfl rfl)) (fun _ F=>X.load rfl (F.ev 79 (Vp w12.heap.size)) (X.ld1 (Try.agg3 _) (hC.at 7 rfl))) (fun _ F=>X.binop rfl (F.ev 80 (Vi (p.bv k 0))) (X.kc (Vi 1) rfl) (X.lssI Try.underlying3 rfl)) (fun _ F=>X.move rfl (F.ev 81 (.bool (decide ((p.bv k 0 : Int) < 1))))) ?_;clear F ac;intro ac F
         have h48 : decide ((p.bv k 0 : Int) < 1) = false := decide_eq_false (by have hq := h26p; omega)
         have h48p : ¬ ((p.bv k 0 : Int) < 1) := of_decide_eq_false h48
         try rw [h48] at F
         refine Y.pg F 3 82 false (X.field rfl (F.ev 6 (Vp w12.heap.size)) (X.fld Try.underlying65 rfl (Try.siz3 _) rfl rfl)) fun ac F=>Y.pg F 3 82 false (X.load rfl (F.ev 83 (Vp w12.heap.size)) (X.ld1 (Try.agg3 _) (hC.at 7 rfl))) fun ac F=>Y.pg F 3 82 false (X.binop rfl (F.ev 84 (Vi (p.bv k 0))) (X.kc (Vi 5) rfl) (X.gtrI Try.underlying3 rfl)) fun ac F=>Y.pv2 F (X.pickF rfl (F.ev 82 (.bool false)) (F.ev 85 (.bool (decide ((5 : Int) < (p.bv k 0)))))) (fun _ F=>X.move rfl (F.ev 86 (.bool (decide ((5 : Int) < (p.bv k 0)))))) ?_;clear F ac;intro ac F
         have h50 : decide ((5 : Int) < (p.bv k 0)) = false := decide_eq_false (by have hq := h26p; omega)
         have h50p : ¬ ((5 : Int) < (p.bv k 0)) := of_decide_eq_false h50
         try rw [h50] at F
         refine Y.pg F 8 87 false (X.load rfl (F.ev 1 (Vp w.heap.size)) (X.ldN (Try.agg27 _) (Try.siz27 _) (Y.atz (⟨w.heap.size, 0, none⟩) (Y.AtFrom.cons (hC.at 0 rfl) (Y.AtFrom.cons (hC.at 1 rfl) (Y.AtFrom.cons (hC.at 2 rfl) (Y.AtFrom.cons (hC.at 3 rfl) (Y.AtFrom.nil _ _ _)))))))) fun ac F=>Y.pg F 8 87 false (X.field rfl (F.ev 6 (Vp w12.heap.size)) (X.fld Try.underlying65 rfl (Try.siz3 _) rfl rfl)) fun ac F=>Y.pg F 8 87 false (X.load rfl (F.ev 89 (.pointer (some ⟨w12.heap.size, 1, none⟩))) (X.ld1 (Try.agg3 _) (hC.at 8 rfl))) ?_;clear F ac;intro ac F
         refine Y.pcall F (X.w1 rfl (F.yl (j := 8) (d := 87) (b := false) rfl (by kernel_rfl))) rfl (X.enter (F := 61) rfl (X.kc (.func (.func 61) #[] #[]) rfl) (X.a2 (F.ev 88 (.agg #[.slice ta p.nt tc, .slice ha p.nh hc, .slice (some pd24) p.nb bc, .slice la p.nl lc])) (F.ev 90 (Vi (p.bv k 1)))) (enters_of Try.func61 (by kernel_rfl) rfl _)) (isTask_any p ta ha (some pd24) la tc hc bc lc (p.bv k 1) w25) ?_
         clear F ac
         rintro e w51 ⟨rfl, g⟩
         refine ⟨_, rfl, ?_⟩
         intro ac F
         replace G := G.trans g
         replace hC := hC.gr g
         replace GB_ := GB_.trans g
         replace GBB_ := GBB_.trans g
         replace GBBB_ := GBBB_.trans g
         replace hpt := hpt.gr g
         replace hph := hph.gr g
         replace hpb := hpb.gr g
         replace hpl := hpl.gr g
         clear g
         refine Y.pg F 8 87 false (X.notB rfl (F.ev 91 (.bool (isT p (p.bv k 1)))) rfl) fun ac F=>Y.pv2 F (X.pickF rfl (F.ev 87 (.bool false)) (F.ev 92 (.bool (!(isT p (p.bv k 1)))))) (fun _ F=>X.move rfl (F.ev 93 (.bool (!(isT p (p.bv k 1)))))) ?_;clear F ac;intro ac F
         cases h52 : isT p (p.bv k 1) with
         | false =>
          try rw [h52] at F
          refine Y.p2 F 15 94 true fun ac F=>Y.pn F 17 96 fun ac F=>Y.pn F 17 96 fun ac F=>Y.pn F 17 96 fun ac F=>Y.pn F 17 96 fun ac F=>Y.pn F 17 96 fun ac F=>Y.pn F 17 96 fun ac F=>Y.pn F 23 102 fun ac F=>Y.pn F 23 102 fun ac F=>Y.pn F 23 102 fun ac F=>Y.pn F 23 102 fun ac F=>Y.pn F 23 102 fun ac F=>Y.pn F 17 96 fun ac F=>Y.ps F 15 94 true fun ac F=>Y.pv2 F (X.pickT rfl (F.ev 94 (.bool true)) (X.kc (.bool true) rfl)) (fun _ F=>X.move rfl (F.ev 110 (.bool true))) fun ac F=>Y.p3 F 32 111 true fun ac F=>Y.pn F 35 114 fun ac F=>Y.pn F 35 114 fun ac F=>Y.pn F 35 114 fun ac F=>Y.pn F 35 114 fun ac F=>Y.pn F 35 114 fun ac F=>Y.ps F 32 111 true fun ac F=>Y.pv F (X.pickT rfl (F.ev 111 (.bool true)) (X.kc (.bool true) rfl)) ?_;clear F ac;intro ac F
          refine Y.nt F [(1, Vp w.heap.size), (5, Vi k), (121, .bool true)] ?_;clear F ac;intro ac F
          refine Y.cT F 121 ?_
          refine Y.sk F 2 (Vi 32) ?_;clear F ac;intro ac F
          refine Y.ret ?_
          refine X.blockR (X.thenR (X.thenR (X.blockR (X.thenR ?_))))
          exact Y.ret0 (v := Vi 32) F (Y.r1 F) ⟨ret_int (chk_b hbig hall1 hall2 hi (by rw [bond_eq3]; simp [h26, h50, h48, h52])).symm, G⟩
         | true =>
          try rw [h52] at F
          refine Y.pg F 15 94 false (X.move rfl (F.ev 7 (.bool true))) fun ac F=>Y.pg F 15 94 false (X.move rfl (F.ev 95 (.bool true))) fun ac F=>Y.pg F 17 96 true (X.load rfl (F.ev 1 (Vp w.heap.size)) (X.ldN (Try.agg27 _) (Try.siz27 _) (Y.atz (⟨w.heap.size, 0, none⟩) (Y.AtFrom.cons (hC.at 0 rfl) (Y.AtFrom.cons (hC.at 1 rfl) (Y.AtFrom.cons (hC.at 2 rfl) (Y.AtFrom.cons (hC.at 3 rfl) (Y.AtFrom.nil _ _ _)))))))) fun ac F=>Y.pg F 17 96 true (X.field rfl (F.ev 6 (Vp w12.heap.size)) (X.fld Try.underlying65 rfl (Try.siz3 _) rfl rfl)) fun ac F=>Y.pg F 17 96 true (X.load rfl (F.ev 98 (.pointer (some ⟨w12.heap.size, 2, none⟩))) (X.ld1 (Try.agg3 _) (hC.at 9 rfl))) ?_;clear F ac;intro ac F
          refine Y.pcall F (X.w1 rfl (F.yl (j := 17) (d := 96) (b := true) rfl (by kernel_rfl))) rfl (X.enter (F := 61) rfl (X.kc (.func (.func 61) #[] #[]) rfl) (X.a2 (F.ev 97 (.agg #[.slice ta p.nt tc, .slice ha p.nh hc, .slice (some pd24) p.nb bc, .slice la p.nl lc])) (F.ev 99 (Vi (p.bv k 2)))) (enters_of Try.func61 (by kernel_rfl) rfl _)) (isTask_any p ta ha (some pd24) la tc hc bc lc (p.bv k 2) w51) ?_
          clear F ac
          rintro e w53 ⟨rfl, g⟩
          refine ⟨_, rfl, ?_⟩
          intro ac F
          replace G := G.trans g
          replace hC := hC.gr g
          replace GB_ := GB_.trans g
          replace GBB_ := GBB_.trans g
          replace GBBB_ := GBBB_.trans g
          replace hpt := hpt.gr g
          replace hph := hph.gr g
          replace hpb := hpb.gr g
          replace hpl := hpl.gr g
          clear g
          refine Y.pg F 17 96 true (X.notB rfl (F.ev 100 (.bool (isT p (p.bv k 2)))) rfl) fun ac F=>Y.pg F 17 96 true (X.move rfl (F.ev 101 (.bool (!(isT p (p.bv k 2)))))) ?_;clear F ac;intro ac F
          cases h54 : isT p (p.bv k 2) with
          | false =>
           try rw [h54] at F
           refine Y.p5 F 23 102 true fun ac F=>Y.pg F 17 96 true (X.pickT rfl (F.ev 102 (.bool true)) (X.kc (.bool true) rfl)) fun ac F=>Y.pg F 15 94 false (X.pickT rfl (F.ev 96 (.bool true)) (F.ev 108 (.bool true))) fun ac F=>Y.pv2 F (X.pickF rfl (F.ev 94 (.bool false)) (F.ev 109 (.bool true))) (fun _ F=>X.move rfl (F.ev 110 (.bool true))) fun ac F=>Y.p3 F 32 111 true fun ac F=>Y.pn F 35 114 fun ac F=>Y.pn F 35 114 fun ac F=>Y.pn F 35 114 fun ac F=>Y.pn F 35 114 fun ac F=>Y.pn F 35 114 fun ac F=>Y.ps F 32 111 true fun ac F=>Y.pv F (X.pickT rfl (F.ev 111 (.bool true)) (X.kc (.bool true) rfl)) ?_;clear F ac;intro ac F
           refine Y.nt F [(1, Vp w.heap.size), (5, Vi k), (121, .bool true)] ?_;clear F ac;intro ac F
           refine Y.cT F 121 ?_
           refine Y.sk F 2 (Vi 32) ?_;clear F ac;intro ac F
           refine Y.ret ?_
           refine X.blockR (X.thenR (X.thenR (X.blockR (X.thenR ?_))))
           exact Y.ret0 (v := Vi 32) F (Y.r1 F) ⟨ret_int (chk_b hbig hall1 hall2 hi (by rw [bond_eq3]; simp [h26, h50, h48, h52, h54])).symm, G⟩
          | true =>
           try rw [h54] at F
           refine Y.pg F 23 102 false (X.field rfl (F.ev 6 (Vp w12.heap.size)) (X.fld Try.underlying65 rfl (Try.siz3 _) rfl rfl)) fun ac F=>Y.pg F 23 102 false (X.load rfl (F.ev 103 (.pointer (some ⟨w12.heap.size, 1, none⟩))) (X.ld1 (Try.agg3 _) (hC.at 8 rfl))) fun ac F=>Y.pg F 23 102 false (X.field rfl (F.ev 6 (Vp w12.heap.size)) (X.fld Try.underlying65 rfl (Try.siz3 _) rfl rfl)) fun ac F=>Y.pg F 23 102 false (X.load rfl (F.ev 105 (.pointer (some ⟨w12.heap.size, 2, none⟩))) (X.ld1 (Try.agg3 _) (hC.at 9 rfl))) fun ac F=>Y.pg F 23 102 false (X.binop rfl (F.ev 104 (Vi (p.bv k 1))) (F.ev 106 (Vi (p.bv k 2))) (X.eqlI Try.underlying3 rfl)) fun ac F=>Y.pg F 17 96 true (X.pickF rfl (F.ev 102 (.bool false)) (F.ev 107 (.bool ((p.bv k 1 : Int) == (p.bv k 2))))) fun ac F=>Y.pg F 15 94 false (X.pickT rfl (F.ev 96 (.bool true)) (F.ev 108 (.bool ((p.bv k 1 : Int) == (p.bv k 2))))) fun ac F=>Y.pv2 F (X.pickF rfl (F.ev 94 (.bool false)) (F.ev 109 (.bool ((p.bv k 1 : Int) == (p.bv k 2))))) (fun _ F=>X.move rfl (F.ev 110 (.bool ((p.bv k 1 : Int) == (p.bv k 2))))) ?_;clear F ac;intro ac F
           cases h55 : ((p.bv k 1 : Int) == (p.bv k 2)) with
           | false =>
            try rw [h55] at F
            have h55p : ¬ (p.bv k 1 : Int) = (p.bv k 2) := by simpa using h55
            refine Y.pg F 32 111 false (X.move rfl (F.ev 7 (.bool true))) fun ac F=>Y.pg F 32 111 false (X.notB rfl (F.ev 112 (.bool true)) rfl) fun ac F=>Y.pg F 32 111 false (X.move rfl (F.ev 113 (.bool false))) fun ac F=>Y.p5 F 35 114 false fun ac F=>Y.pg F 32 111 false (X.pickF rfl (F.ev 114 (.bool false)) (X.kc (.bool false) rfl)) fun ac F=>Y.pv F (X.pickF rfl (F.ev 111 (.bool false)) (F.ev 120 (.bool false))) ?_;clear F ac;intro ac F
            refine Y.nt F [(1, Vp w.heap.size), (5, Vi k), (121, .bool false)] ?_;clear F ac;intro ac F
            refine Y.cF F 121 ?_
            refine Y.skip ?_
            refine X.blockN (X.thenN ?_)
            refine Y.lg F [(1, Vp w.heap.size), (5, Vi ((k : Int) + 1))] (by
             refine Y.pv F (X.move rfl (F.ev 5 (Vi k))) fun ac F=>?_
             refine Y.pv F (X.binop rfl (F.ev 59 (Vi k)) (X.kc (Vi 1) rfl) (X.addI Try.underlying3 rfl (by omega) (by omega))) fun ac F=>?_
             refine Y.pv F (X.assign rfl (F.ev 60 (Vi ((k : Int) + 1)))) fun ac F=>?_
             exact Y.fin F) ?_;clear F ac;intro ac F
            refine ⟨_, ?_, k + 1, rfl, GBBB_, by omega, allN_succ hok (by rw [bond_eq3]; simp [h26, h55, h50, h48, h52, h54]), F.sub _⟩
            omega
           | true =>
            try rw [h55] at F
            have h55p : (p.bv k 1 : Int) = (p.bv k 2) := by simpa using h55
            refine Y.p3 F 32 111 true fun ac F=>Y.pn F 35 114 fun ac F=>Y.pn F 35 114 fun ac F=>Y.pn F 35 114 fun ac F=>Y.pn F 35 114 fun ac F=>Y.pn F 35 114 fun ac F=>Y.ps F 32 111 true fun ac F=>Y.pv F (X.pickT rfl (F.ev 111 (.bool true)) (X.kc (.bool true) rfl)) ?_;clear F ac;intro ac F
            refine Y.nt F [(1, Vp w.heap.size), (5, Vi k), (121, .bool true)] ?_;clear F ac;intro ac F
            refine Y.cT F 121 ?_
            refine Y.sk F 2 (Vi 32) ?_;clear F ac;intro ac F
            refine Y.ret ?_
            refine X.blockR (X.thenR (X.thenR (X.blockR (X.thenR ?_))))
            exact Y.ret0 (v := Vi 32) F (Y.r1 F) ⟨ret_int (chk_b hbig hall1 hall2 hi (by rw [bond_eq3]; simp [h26, h55, h50, h48, h52, h54])).symm, G⟩
      | true =>
       try rw [h11] at F
       have h11p : ((j : Int) < p.nh) := of_decide_eq_true h11
       have hi : j < p.nh := by omega
       refine Y.cT F 47 ?_
       refine Y.skip ?_
       refine X.thenN ?_
       refine Y.seq ?_
       refine Y.block ?_
       refine Y.sl ?_
       refine Y.pv2 F (X.load rfl (F.ev 1 (Vp w.heap.size)) (X.ldN (Try.agg27 _) (Try.siz27 _) (Y.atz (⟨w.heap.size, 0, none⟩) (Y.AtFrom.cons (hC.at 0 rfl) (Y.AtFrom.cons (hC.at 1 rfl) (Y.AtFrom.cons (hC.at 2 rfl) (Y.AtFrom.cons (hC.at 3 rfl) (Y.AtFrom.nil _ _ _)))))))) (fun _ F=>X.move rfl (F.ev 4 (Vi j))) fun ac F=>Y.pc F 60 (X.a2 (F.ev 50 (.agg #[.slice ta p.nt tc, .slice ha p.nh hc, .slice ba p.nb bc, .slice la p.nl lc])) (F.ev 51 (Vi j))) Try.func60 (host_any p ta ha ba la tc hc bc lc j w10 (hP.gr G) (by omega)) ?_
       clear F ac
       rintro e w56 ⟨rfl, g⟩
       refine ⟨_, rfl, ?_⟩
       intro ac F
       replace G := G.trans g
       replace hC := hC.gr g
       replace GB_ := GB_.trans g
       replace GBB_ := GBB_.trans g
       replace hpt := hpt.gr g
       replace hph := hph.gr g
       replace hpb := hpb.gr g
       replace hpl := hpl.gr g
       clear g
       refine Y.pv F (X.notB rfl (F.ev 52 (.bool (hostB p j))) rfl) ?_;clear F ac;intro ac F
       refine Y.nt F [(1, Vp w.heap.size), (4, Vi j), (53, .bool (!(hostB p j)))] ?_;clear F ac;intro ac F
       cases h57 : hostB p j with
       | false =>
        try rw [h57] at F
        refine Y.cT F 53 ?_
        refine Y.sk F 2 (Vi 31) ?_;clear F ac;intro ac F
        refine Y.ret ?_
        refine X.blockR (X.thenR (X.thenR (X.blockR (X.thenR ?_))))
        exact Y.ret0 (v := Vi 31) F (Y.r1 F) ⟨ret_int (chk_h hbig hall1 hi (by simp [h57])).symm, G⟩
       | true =>
        try rw [h57] at F
        refine Y.cF F 53 ?_
        refine Y.skip ?_
        refine X.blockN (X.thenN ?_)
        refine Y.lg F [(1, Vp w.heap.size), (4, Vi ((j : Int) + 1))] (by
         refine Y.pv F (X.move rfl (F.ev 4 (Vi j))) fun ac F=>?_
         refine Y.pv F (X.binop rfl (F.ev 48 (Vi j)) (X.kc (Vi 1) rfl) (X.addI Try.underlying3 rfl (by omega) (by omega))) fun ac F=>?_
         refine Y.pv F (X.assign rfl (F.ev 49 (Vi ((j : Int) + 1)))) fun ac F=>?_
         exact Y.fin F) ?_;clear F ac;intro ac F
        refine ⟨_, ?_, j + 1, rfl, GBB_, by omega, allN_succ hok (by simp [h57]), F.sub _⟩
        omega
     | true =>
      try rw [h9] at F
      have h9p : ((i : Int) < p.nt) := of_decide_eq_true h9
      have hi : i < p.nt := by omega
      refine Y.cT F 36 ?_
      refine Y.skip ?_
      refine X.thenN ?_
      refine Y.seq ?_
      refine Y.block ?_
      refine Y.sl ?_
      refine Y.pv2 F (X.load rfl (F.ev 1 (Vp w.heap.size)) (X.ldN (Try.agg27 _) (Try.siz27 _) (Y.atz (⟨w.heap.size, 0, none⟩) (Y.AtFrom.cons (hC.at 0 rfl) (Y.AtFrom.cons (hC.at 1 rfl) (Y.AtFrom.cons (hC.at 2 rfl) (Y.AtFrom.cons (hC.at 3 rfl) (Y.AtFrom.nil _ _ _)))))))) (fun _ F=>X.move rfl (F.ev 3 (Vi i))) fun ac F=>Y.pc F 59 (X.a2 (F.ev 39 (.agg #[.slice ta p.nt tc, .slice ha p.nh hc, .slice ba p.nb bc, .slice la p.nl lc])) (F.ev 40 (Vi i))) Try.func59 (task_any p ta ha ba la tc hc bc lc i w8 (hP.gr G) (by omega)) ?_
      clear F ac
      rintro e w58 ⟨rfl, g⟩
      refine ⟨_, rfl, ?_⟩
      intro ac F
      replace G := G.trans g
      replace hC := hC.gr g
      replace GB_ := GB_.trans g
      replace hpt := hpt.gr g
      replace hph := hph.gr g
      replace hpb := hpb.gr g
      replace hpl := hpl.gr g
      clear g
      refine Y.pv F (X.notB rfl (F.ev 41 (.bool (taskB p i))) rfl) ?_;clear F ac;intro ac F
      refine Y.nt F [(1, Vp w.heap.size), (3, Vi i), (42, .bool (!(taskB p i)))] ?_;clear F ac;intro ac F
      cases h59 : taskB p i with
      | false =>
       try rw [h59] at F
       refine Y.cT F 42 ?_
       refine Y.sk F 2 (Vi 30) ?_;clear F ac;intro ac F
       refine Y.ret ?_
       refine X.blockR (X.thenR (X.thenR (X.blockR (X.thenR ?_))))
       exact Y.ret0 (v := Vi 30) F (Y.r1 F) ⟨ret_int (chk_t hbig hi (by simp [h59])).symm, G⟩
      | true =>
       try rw [h59] at F
       refine Y.cF F 42 ?_
       refine Y.skip ?_
       refine X.blockN (X.thenN ?_)
       refine Y.lg F [(1, Vp w.heap.size), (3, Vi ((i : Int) + 1))] (by
        refine Y.pv F (X.move rfl (F.ev 3 (Vi i))) fun ac F=>?_
        refine Y.pv F (X.binop rfl (F.ev 37 (Vi i)) (X.kc (Vi 1) rfl) (X.addI Try.underlying3 rfl (by omega) (by omega))) fun ac F=>?_
        refine Y.pv F (X.assign rfl (F.ev 38 (Vi ((i : Int) + 1)))) fun ac F=>?_
        exact Y.fin F) ?_;clear F ac;intro ac F
       refine ⟨_, ?_, i + 1, rfl, GB_, by omega, allN_succ hok (by simp [h59]), F.sub _⟩
       omega
    | true =>
     try rw [h7] at F
     have h7p : ((30 : Int) < p.nl) := of_decide_eq_true h7
     refine Y.cT F 31 ?_
     refine Y.sk F 2 (Vi 2) ?_;clear F ac;intro ac F
     refine Y.ret ?_
     refine X.thenR ?_
     exact Y.ret0 (v := Vi 2) F (Y.r1 F) ⟨ret_int (chk_big (by omega)).symm, G⟩
   | true =>
    try rw [h6] at F
    have h6p : ((30 : Int) < p.nb) := of_decide_eq_true h6
    refine Y.p3 F 16 26 true fun ac F=>Y.ps F 16 26 true fun ac F=>Y.pv F (X.pickT rfl (F.ev 26 (.bool true)) (X.kc (.bool true) rfl)) ?_;clear F ac;intro ac F
    refine Y.nt F [(1, Vp w.heap.size), (31, .bool true)] ?_;clear F ac;intro ac F
    refine Y.cT F 31 ?_
    refine Y.sk F 2 (Vi 2) ?_;clear F ac;intro ac F
    refine Y.ret ?_
    refine X.thenR ?_
    exact Y.ret0 (v := Vi 2) F (Y.r1 F) ⟨ret_int (chk_big (by omega)).symm, G⟩
  | true =>
   try rw [h5] at F
   have h5p : ((6 : Int) < p.nh) := of_decide_eq_true h5
   refine Y.p3 F 10 20 true fun ac F=>Y.ps F 10 20 true fun ac F=>Y.pv2 F (X.pickT rfl (F.ev 20 (.bool true)) (X.kc (.bool true) rfl)) (fun _ F=>X.move rfl (F.ev 25 (.bool true))) fun ac F=>Y.p3 F 16 26 true fun ac F=>Y.ps F 16 26 true fun ac F=>Y.pv F (X.pickT rfl (F.ev 26 (.bool true)) (X.kc (.bool true) rfl)) ?_;clear F ac;intro ac F
   refine Y.nt F [(1, Vp w.heap.size), (31, .bool true)] ?_;clear F ac;intro ac F
   refine Y.cT F 31 ?_
   refine Y.sk F 2 (Vi 2) ?_;clear F ac;intro ac F
   refine Y.ret ?_
   refine X.thenR ?_
   exact Y.ret0 (v := Vi 2) F (Y.r1 F) ⟨ret_int (chk_big (by omega)).symm, G⟩
 | true =>
  try rw [h4] at F
  have h4p : ((10 : Int) < p.nt) := of_decide_eq_true h4
  refine Y.p3 F 4 14 true fun ac F=>Y.ps F 4 14 true fun ac F=>Y.pv2 F (X.pickT rfl (F.ev 14 (.bool true)) (X.kc (.bool true) rfl)) (fun _ F=>X.move rfl (F.ev 19 (.bool true))) fun ac F=>Y.p3 F 10 20 true fun ac F=>Y.ps F 10 20 true fun ac F=>Y.pv2 F (X.pickT rfl (F.ev 20 (.bool true)) (X.kc (.bool true) rfl)) (fun _ F=>X.move rfl (F.ev 25 (.bool true))) fun ac F=>Y.p3 F 16 26 true fun ac F=>Y.ps F 16 26 true fun ac F=>Y.pv F (X.pickT rfl (F.ev 26 (.bool true)) (X.kc (.bool true) rfl)) ?_;clear F ac;intro ac F
  refine Y.nt F [(1, Vp w.heap.size), (31, .bool true)] ?_;clear F ac;intro ac F
  refine Y.cT F 31 ?_
  refine Y.sk F 2 (Vi 2) ?_;clear F ac;intro ac F
  refine Y.ret ?_
  refine X.thenR ?_
  exact Y.ret0 (v := Vi 2) F (Y.r1 F) ⟨ret_int (chk_big (by omega)).symm, G⟩
end Go.Proofs.Ytodedneanlekdaa
