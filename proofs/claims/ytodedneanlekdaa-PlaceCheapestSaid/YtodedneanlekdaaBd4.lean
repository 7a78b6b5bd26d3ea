/- Contract: Check. -/
import Derived.Test.YtodedneanlekdaaBd3
namespace Go.Proofs.Ytodedneanlekdaa
set_option linter.unusedSimpArgs false
set_option linter.unusedVariables false
open Go.RowKit

theorem all_1 {x : Int} : allN (fun i => amtB ([x][i]?.getD 0)) 1 = (amtB x) := by simp [allN]
theorem all_2 {x y : Int} : allN (fun i => amtB ([x, y][i]?.getD 0)) 2 = (amtB x && amtB y) := by simp [allN]
theorem all_4 {x y z u : Int} : allN (fun i => amtB ([x, y, z, u][i]?.getD 0)) 4 = (amtB x && amtB y && amtB z && amtB u) := by simp [allN]
theorem bond_eq (p : Pb) (j : Nat) : bondB p j = (withinB (p.bv j 1) 0 ((p.nt : Int) - 1) && (if p.bv j 0 = 1 ∨ p.bv j 0 = 2 ∨ p.bv j 0 = 3 then withinB (p.bv j 2) 0 ((p.nt : Int) - 1) && !decide (p.bv j 1 = p.bv j 2) else if p.bv j 0 = 4 ∨ p.bv j 0 = 5 then withinB (p.bv j 2) 0 ((p.nh : Int) - 1) else false)) := by
  simp only [withinB_t, withinB_h]; rfl
theorem talk_eq (p : Pb) (j : Nat) : talkB p j = (withinB (p.lv j 0) 0 ((p.nt : Int) - 1) && withinB (p.lv j 1) 0 ((p.nt : Int) - 1) && !decide (p.lv j 0 = p.lv j 1) && amtB (p.lv j 2)) := by
  simp only [withinB_t]; rfl
theorem task_eq (p : Pb) (i : Nat) : taskB p i = (nameB (p.tn i) && !twiceB p.tn i && (amtB (p.tv i 1) && amtB (p.tv i 2)) && withinB (p.tv i 3) 0 4) := by
  rw [withinB_lev]; unfold taskB; simp only [Bool.and_assoc]
theorem host_eq (p : Pb) (i : Nat) : hostB p i = (nameB (p.hn i) && !twiceB p.hn i && (amtB (p.hv i 1) && amtB (p.hv i 2) && amtB (p.hv i 4) && amtB (p.hv i 5)) && withinB (p.hv i 3) 0 4) := by
  rw [withinB_lev]; unfold hostB; simp only [Bool.and_assoc]
theorem chk_big {p : Pb} (h : 10 < p.nt ∨ 6 < p.nh ∨ 30 < p.nb ∨ 30 < p.nl) : chkE p = 2 := if_pos h
theorem chk_t {p : Pb} (h : ¬ (10 < p.nt ∨ 6 < p.nh ∨ 30 < p.nb ∨ 30 < p.nl)) {i : Nat} (hi : i < p.nt) (hb : taskB p i = false) : chkE p = 30 := by
  rw [chkE, if_neg h, if_pos (allN_false hi hb)]
theorem chk_h {p : Pb} (h : ¬ (10 < p.nt ∨ 6 < p.nh ∨ 30 < p.nb ∨ 30 < p.nl)) (h1 : allN (taskB p) p.nt = true) {i : Nat} (hi : i < p.nh) (hb : hostB p i = false) : chkE p = 31 := by
  rw [chkE, if_neg h, if_neg (by rw [h1]; decide), if_pos (allN_false hi hb)]
theorem chk_b {p : Pb} (h : ¬ (10 < p.nt ∨ 6 < p.nh ∨ 30 < p.nb ∨ 30 < p.nl)) (h1 : allN (taskB p) p.nt = true) (h2 : allN (hostB p) p.nh = true) {i : Nat} (hi : i < p.nb) (hb : bondB p i = false) : chkE p = 32 := by
  rw [chkE, if_neg h, if_neg (by rw [h1]; decide), if_neg (by rw [h2]; decide), if_pos (allN_false hi hb)]
theorem chk_l {p : Pb} (h : ¬ (10 < p.nt ∨ 6 < p.nh ∨ 30 < p.nb ∨ 30 < p.nl)) (h1 : allN (taskB p) p.nt = true) (h2 : allN (hostB p) p.nh = true) (h3 : allN (bondB p) p.nb = true) {i : Nat} (hi : i < p.nl) (hb : talkB p i = false) : chkE p = 32 := by
  rw [chkE, if_neg h, if_neg (by rw [h1]; decide), if_neg (by rw [h2]; decide), if_neg (by rw [h3]; decide), if_pos (allN_false hi hb)]
theorem chk_0 {p : Pb} (h : ¬ (10 < p.nt ∨ 6 < p.nh ∨ 30 < p.nb ∨ 30 < p.nl)) (h1 : allN (taskB p) p.nt = true) (h2 : allN (hostB p) p.nh = true) (h3 : allN (bondB p) p.nb = true) (h4 : allN (talkB p) p.nl = true) : chkE p = 0 := by
  rw [chkE, if_neg h, if_neg (by rw [h1]; decide), if_neg (by rw [h2]; decide), if_neg (by rw [h3]; decide), if_neg (by rw [h4]; decide)]
set_option maxRecDepth 100000 in
set_option maxHeartbeats 2000000 in
theorem check_any (p : Pb) (ta ha ba la : Option Addr) (tc hc bc lc : Nat) (w : World) (hP : PbAt w p ta ha ba la tc hc bc lc) :
  Calls Try.prog 18 #[.agg #[.slice ta p.nt tc, .slice ha p.nh hc, .slice ba p.nb bc, .slice la p.nl lc]] w fun e w' => e = .returned (Vi (chkE p)) ∧ Gr w w' := by
 have G := Gr.refl w
 have hpt := hP.t
 have hph := hP.h
 have hpb := hP.b
 have hpl := hP.l
 have hplen := hP.len
 obtain ⟨hn1, hn2, hn3, hn4⟩ := hplen
 have hcp1 := hpt.cap
 have hcp2 := hph.cap
 have hcp3 := hpb.cap
 have hcp4 := hpl.cap
 refine Y.calls 201 Try.func18 rfl rfl ?_
 intro ac F0
 have F : Fr ac 201 [(0, .agg #[.slice ta p.nt tc, .slice ha p.nh hc, .slice ba p.nb bc, .slice la p.nl lc])] := F0.sub _
 clear F0
 refine Y.sl ?_
 refine Y.pv F (X.box rfl (F.ev 0 (.agg #[.slice ta p.nt tc, .slice ha p.nh hc, .slice ba p.nb bc, .slice la p.nl lc])) X.bx) ?_;clear F ac;intro ac F
 obtain ⟨w3, hw_, g, hb, hbl, hC2⟩ := Y.bxd (RCells.nil w) #[.slice ta p.nt tc, .slice ha p.nh hc, .slice ba p.nb bc, .slice la p.nl lc] 27;rw [hw_];clear hw_
 replace G := G.trans g
 have hC := hC2
 clear hC2
 replace hpt := hpt.gr g
 replace hph := hph.gr g
 replace hpb := hpb.gr g
 replace hpl := hpl.gr g
 clear g hb hbl
 refine Y.pv F (X.assign rfl (X.kc (Vi 0) rfl)) ?_;clear F ac;intro ac F
 refine Y.nt F [(1, Vp w.heap.size)] ?_;clear F ac;intro ac F
 refine Y.seq ?_
 refine Y.region F [some (Vp w.heap.size), some (.slice ta p.nt tc), some (Vi p.nt), some (.pointer (some ⟨w.heap.size, 1, none⟩)), some (.slice ha p.nh hc), some (Vi p.nh), some (Vi p.nt), some (Vi p.nh)] [] rfl ⟨by kernel_rfl, of_decide_eq_true (by kernel_rfl), by kernel_rfl, by kernel_rfl, by kernel_rfl⟩ ⟨?_, ?_, ?_, ?_, ?_, ?_, ?_, ?_, trivial⟩ ?_
 ·intro ac done u W Sx hR
  exact X.vl (X.field rfl (Sx.ev 1 (Vp w.heap.size)) (X.fld Try.underlying27 rfl (Try.siz22 _) rfl rfl)) hR.st0
 ·intro ac done u W Sx hR
  have g : Gr w3 W := hR.1
  exact X.vl (X.load rfl (Sx.ev 16 (Vp w.heap.size)) (X.ld1 (Try.agg22 _) ((hC.gr g).at 0 rfl))) hR.st0
 ·intro ac done u W Sx hR
  exact X.vl (X.len1 Try.underlying22 rfl (Sx.ev 17 (.slice ta p.nt tc))) hR.st0
 ·intro ac done u W Sx hR
  exact X.vl (X.field rfl (Sx.ev 1 (Vp w.heap.size)) (X.fld Try.underlying27 rfl (Try.siz23 _) rfl rfl)) hR.st0
 ·intro ac done u W Sx hR
  have g : Gr w3 W := hR.1
  exact X.vl (X.load rfl (Sx.ev 19 (.pointer (some ⟨w.heap.size, 1, none⟩))) (X.ld1 (Try.agg23 _) ((hC.gr g).at 1 rfl))) hR.st0
 ·intro ac done u W Sx hR
  exact X.vl (X.len1 Try.underlying23 rfl (Sx.ev 20 (.slice ha p.nh hc))) hR.st0
 ·intro ac done u W Sx hR
  exact X.vl (X.assign rfl (Sx.ev 18 (Vi p.nt))) hR.st0
 ·intro ac done u W Sx hR
  exact X.vl (X.assign rfl (Sx.ev 21 (Vi p.nh))) hR.st0
 intro ac u w4 hs hd hl ho hR
 have g : Gr w3 w4 := hR.1
 replace F : Fr ac 201 [(1, Vp w.heap.size), (3, Vi p.nt), (4, Vi p.nh)] := X.fr hs hd hl _ (by kernel_rfl)
 clear hs hd hl ho hR
 replace G := G.trans g
 replace hC := hC.gr g
 replace hpt := hpt.gr g
 replace hph := hph.gr g
 replace hpb := hpb.gr g
 replace hpl := hpl.gr g
 clear g
 refine X.thenN ?_
 refine Y.seq ?_
 refine Y.sl ?_
 refine Y.pv3 F (X.move rfl (F.ev 3 (Vi p.nt))) (fun _ F=>X.binop rfl (F.ev 22 (Vi p.nt)) (X.kc (Vi 10) rfl) (X.gtrI Try.underlying3 rfl)) (fun _ F=>X.move rfl (F.ev 23 (.bool (decide ((10 : Int) < p.nt))))) ?_;clear F ac;intro ac F
 cases h5 : decide ((10 : Int) < p.nt) with
 | false =>
  try rw [h5] at F
  have h5p : ¬ ((10 : Int) < p.nt) := of_decide_eq_false h5
  refine Y.pg F 2 24 false (X.move rfl (F.ev 4 (Vi p.nh))) fun ac F=>Y.pg F 2 24 false (X.binop rfl (F.ev 25 (Vi p.nh)) (X.kc (Vi 6) rfl) (X.gtrI Try.underlying3 rfl)) fun ac F=>Y.pv2 F (X.pickF rfl (F.ev 24 (.bool false)) (F.ev 26 (.bool (decide ((6 : Int) < p.nh))))) (fun _ F=>X.move rfl (F.ev 27 (.bool (decide ((6 : Int) < p.nh))))) ?_;clear F ac;intro ac F
  cases h6 : decide ((6 : Int) < p.nh) with
  | false =>
   try rw [h6] at F
   have h6p : ¬ ((6 : Int) < p.nh) := of_decide_eq_false h6
   refine Y.pg F 6 28 false (X.field rfl (F.ev 1 (Vp w.heap.size)) (X.fld Try.underlying27 rfl (Try.siz24 _) rfl rfl)) fun ac F=>Y.pg F 6 28 false (X.load rfl (F.ev 29 (.pointer (some ⟨w.heap.size, 2, none⟩))) (X.ld1 (Try.agg24 _) (hC.at 2 rfl))) fun ac F=>Y.pg F 6 28 false (X.len1 Try.underlying24 rfl (F.ev 30 (.slice ba p.nb bc))) fun ac F=>Y.pg F 6 28 false (X.binop rfl (F.ev 31 (Vi p.nb)) (X.kc (Vi 30) rfl) (X.gtrI Try.underlying3 rfl)) fun ac F=>Y.pv2 F (X.pickF rfl (F.ev 28 (.bool false)) (F.ev 32 (.bool (decide ((30 : Int) < p.nb))))) (fun _ F=>X.move rfl (F.ev 33 (.bool (decide ((30 : Int) < p.nb))))) ?_;clear F ac;intro ac F
   cases h7 : decide ((30 : Int) < p.nb) with
   | false =>
    try rw [h7] at F
    have h7p : ¬ ((30 : Int) < p.nb) := of_decide_eq_false h7
    refine Y.pg F 12 34 false (X.field rfl (F.ev 1 (Vp w.heap.size)) (X.fld Try.underlying27 rfl (Try.siz25 _) rfl rfl)) fun ac F=>Y.pg F 12 34 false (X.load rfl (F.ev 35 (.pointer (some ⟨w.heap.size, 3, none⟩))) (X.ld1 (Try.agg25 _) (hC.at 3 rfl))) fun ac F=>Y.pg F 12 34 false (X.len1 Try.underlying25 rfl (F.ev 36 (.slice la p.nl lc))) fun ac F=>Y.pg F 12 34 false (X.binop rfl (F.ev 37 (Vi p.nl)) (X.kc (Vi 30) rfl) (X.gtrI Try.underlying3 rfl)) fun ac F=>Y.pv F (X.pickF rfl (F.ev 34 (.bool false)) (F.ev 38 (.bool (decide ((30 : Int) < p.nl))))) ?_;clear F ac;intro ac F
    refine Y.nt F [(1, Vp w.heap.size), (3, Vi p.nt), (4, Vi p.nh), (39, .bool (decide ((30 : Int) < p.nl)))] ?_;clear F ac;intro ac F
    cases h8 : decide ((30 : Int) < p.nl) with
    | false =>
     try rw [h8] at F
     have h8p : ¬ ((30 : Int) < p.nl) := of_decide_eq_false h8
     refine Y.cF F 39 ?_
     refine Y.skip ?_
     refine X.thenN ?_
     refine Y.seq ?_
     refine Y.sg F [(1, Vp w.heap.size), (3, Vi p.nt), (4, Vi p.nh), (41, .slice ta p.nt tc), (42, Vi p.nt), (43, Vi 0)] (by
      refine Y.pv F (X.field rfl (F.ev 1 (Vp w.heap.size)) (X.fld Try.underlying27 rfl (Try.siz22 _) rfl rfl)) fun ac F=>?_
      refine Y.pv F (X.load rfl (F.ev 40 (Vp w.heap.size)) (X.ld1 (Try.agg22 _) (hC.at 0 rfl))) fun ac F=>?_
      refine Y.pv F (X.len1 Try.underlying22 rfl (F.ev 41 (.slice ta p.nt tc))) fun ac F=>?_
      refine Y.pv F (X.move rfl (X.kc (Vi 0) rfl)) fun ac F=>?_
      exact Y.fin F) ?_;clear F ac;intro ac F
     refine Y.block ?_
     have hbig : ¬ (10 < p.nt ∨ 6 < p.nh ∨ 30 < p.nb ∨ 30 < p.nl) := by omega
     have hptB := hpt
     have hphB := hph
     have hpbB := hpb
     have hplB := hpl
     have hCB := hC
     have GB := G
     refine Y.loop (fun me_ ac wr => ∃ (i : Nat), me_ = p.nt - i ∧ Gr w4 wr ∧ i ≤ p.nt ∧ allN (taskB p) i = true ∧ Fr ac 201 [(1, Vp w.heap.size), (3, Vi p.nt), (4, Vi p.nh), (41, .slice ta p.nt tc), (42, Vi p.nt), (43, Vi i)]) _ ⟨0, rfl, Gr.refl _, Nat.zero_le _, rfl, F.sub _⟩ ?_
     clear F
     intro me_ ac w9 hI
     obtain ⟨i, rfl, gr, hi0, hok, F⟩ := hI
     replace G := GB.trans gr
     replace hC := hCB.gr gr
     replace hpt := hptB.gr gr
     replace hph := hphB.gr gr
     replace hpb := hpbB.gr gr
     replace hpl := hplB.gr gr
     have GB_ := gr
     clear gr
     refine Y.sg F [(1, Vp w.heap.size), (3, Vi p.nt), (4, Vi p.nh), (41, .slice ta p.nt tc), (42, Vi p.nt), (43, Vi i), (44, .bool (decide ((i : Int) < p.nt)))] (Y.pv F (X.binop rfl (F.ev 43 (Vi i)) (F.ev 42 (Vi p.nt)) (X.lssI Try.underlying3 rfl)) fun ac F=>Y.fin F) ?_;clear F ac;intro ac F
     refine Y.seq ?_
     cases h10 : decide ((i : Int) < p.nt) with
     | false =>
      try rw [h10] at F
      have h10p : ¬ ((i : Int) < p.nt) := of_decide_eq_false h10
      obtain rfl : i = p.nt := by omega
      have hall1 := hok
      refine Y.cF F 44 ?_
      refine Y.exit ?_
      refine X.thenX (X.thenX (X.blockX (X.thenN ?_)))
      refine Y.seq ?_
      refine Y.sg F [(1, Vp w.heap.size), (3, Vi p.nt), (4, Vi p.nh), (78, .slice ha p.nh hc), (79, Vi p.nh), (80, Vi 0)] (by
       refine Y.pv F (X.field rfl (F.ev 1 (Vp w.heap.size)) (X.fld Try.underlying27 rfl (Try.siz23 _) rfl rfl)) fun ac F=>?_
       refine Y.pv F (X.load rfl (F.ev 77 (.pointer (some ⟨w.heap.size, 1, none⟩))) (X.ld1 (Try.agg23 _) (hC.at 1 rfl))) fun ac F=>?_
       refine Y.pv F (X.len1 Try.underlying23 rfl (F.ev 78 (.slice ha p.nh hc))) fun ac F=>?_
       refine Y.pv F (X.move rfl (X.kc (Vi 0) rfl)) fun ac F=>?_
       exact Y.fin F) ?_;clear F ac;intro ac F
      refine Y.block ?_
      have hptBB := hpt
      have hphBB := hph
      have hpbBB := hpb
      have hplBB := hpl
      have hCBB := hC
      have GBB := G
      refine Y.loop (fun me_ ac wr => ∃ (j : Nat), me_ = p.nh - j ∧ Gr w9 wr ∧ j ≤ p.nh ∧ allN (hostB p) j = true ∧ Fr ac 201 [(1, Vp w.heap.size), (3, Vi p.nt), (4, Vi p.nh), (78, .slice ha p.nh hc), (79, Vi p.nh), (80, Vi j)]) _ ⟨0, rfl, Gr.refl _, Nat.zero_le _, rfl, F.sub _⟩ ?_
      clear F
      intro me_ ac w11 hI
      obtain ⟨j, rfl, gr, hi0, hok, F⟩ := hI
      replace G := GBB.trans gr
      replace hC := hCBB.gr gr
      replace hpt := hptBB.gr gr
      replace hph := hphBB.gr gr
      replace hpb := hpbBB.gr gr
      replace hpl := hplBB.gr gr
      replace GB_ := GB_.trans gr
      have GBB_ := gr
      clear gr
      refine Y.sg F [(1, Vp w.heap.size), (3, Vi p.nt), (4, Vi p.nh), (78, .slice ha p.nh hc), (79, Vi p.nh), (80, Vi j), (81, .bool (decide ((j : Int) < p.nh)))] (Y.pv F (X.binop rfl (F.ev 80 (Vi j)) (F.ev 79 (Vi p.nh)) (X.lssI Try.underlying3 rfl)) fun ac F=>Y.fin F) ?_;clear F ac;intro ac F
      refine Y.seq ?_
      cases h12 : decide ((j : Int) < p.nh) with
      | false =>
       try rw [h12] at F
       have h12p : ¬ ((j : Int) < p.nh) := of_decide_eq_false h12
       obtain rfl : j = p.nh := by omega
       have hall2 := hok
       refine Y.cF F 81 ?_
       refine Y.exit ?_
       refine X.thenX (X.thenX (X.blockX (X.thenN ?_)))
       refine Y.seq ?_
       refine Y.sg F [(1, Vp w.heap.size), (3, Vi p.nt), (4, Vi p.nh), (119, .slice ba p.nb bc), (120, Vi p.nb), (121, Vi 0)] (by
        refine Y.pv F (X.field rfl (F.ev 1 (Vp w.heap.size)) (X.fld Try.underlying27 rfl (Try.siz24 _) rfl rfl)) fun ac F=>?_
        refine Y.pv F (X.load rfl (F.ev 118 (.pointer (some ⟨w.heap.size, 2, none⟩))) (X.ld1 (Try.agg24 _) (hC.at 2 rfl))) fun ac F=>?_
        refine Y.pv F (X.len1 Try.underlying24 rfl (F.ev 119 (.slice ba p.nb bc))) fun ac F=>?_
        refine Y.pv F (X.move rfl (X.kc (Vi 0) rfl)) fun ac F=>?_
        exact Y.fin F) ?_;clear F ac;intro ac F
       refine Y.block ?_
       have hptBBB := hpt
       have hphBBB := hph
       have hpbBBB := hpb
       have hplBBB := hpl
       have hCBBB := hC
       have GBBB := G
       refine Y.loop (fun me_ ac wr => ∃ (k : Nat), me_ = p.nb - k ∧ Gr w11 wr ∧ k ≤ p.nb ∧ allN (bondB p) k = true ∧ Fr ac 201 [(1, Vp w.heap.size), (3, Vi p.nt), (4, Vi p.nh), (119, .slice ba p.nb bc), (120, Vi p.nb), (121, Vi k)]) _ ⟨0, rfl, Gr.refl _, Nat.zero_le _, rfl, F.sub _⟩ ?_
       clear F
       intro me_ ac w13 hI
       obtain ⟨k, rfl, gr, hi0, hok, F⟩ := hI
       replace G := GBBB.trans gr
       replace hC := hCBBB.gr gr
       replace hpt := hptBBB.gr gr
       replace hph := hphBBB.gr gr
       replace hpb := hpbBBB.gr gr
       replace hpl := hplBBB.gr gr
       replace GB_ := GB_.trans gr
       replace GBB_ := GBB_.trans gr
       have GBBB_ := gr
       clear gr
       refine Y.sg F [(1, Vp w.heap.size), (3, Vi p.nt), (4, Vi p.nh), (119, .slice ba p.nb bc), (120, Vi p.nb), (121, Vi k), (122, .bool (decide ((k : Int) < p.nb)))] (Y.pv F (X.binop rfl (F.ev 121 (Vi k)) (F.ev 120 (Vi p.nb)) (X.lssI Try.underlying3 rfl)) fun ac F=>Y.fin F) ?_;clear F ac;intro ac F
       refine Y.seq ?_
       cases h14 : decide ((k : Int) < p.nb) with
       | false =>
        try rw [h14] at F
        have h14p : ¬ ((k : Int) < p.nb) := of_decide_eq_false h14
        obtain rfl : k = p.nb := by omega
        have hall3 := hok
        refine Y.cF F 122 ?_
        refine Y.exit ?_
        refine X.thenX (X.thenX (X.blockX (X.thenN ?_)))
        refine Y.seq ?_
        refine Y.sg F [(3, Vi p.nt), (166, .slice la p.nl lc), (167, Vi p.nl), (168, Vi 0)] (by
         refine Y.pv F (X.field rfl (F.ev 1 (Vp w.heap.size)) (X.fld Try.underlying27 rfl (Try.siz25 _) rfl rfl)) fun ac F=>?_
         refine Y.pv F (X.load rfl (F.ev 165 (.pointer (some ⟨w.heap.size, 3, none⟩))) (X.ld1 (Try.agg25 _) (hC.at 3 rfl))) fun ac F=>?_
         refine Y.pv F (X.len1 Try.underlying25 rfl (F.ev 166 (.slice la p.nl lc))) fun ac F=>?_
         refine Y.pv F (X.move rfl (X.kc (Vi 0) rfl)) fun ac F=>?_
         exact Y.fin F) ?_;clear F ac;intro ac F
        refine Y.block ?_
        have hptBBBB := hpt
        have hphBBBB := hph
        have hpbBBBB := hpb
        have hplBBBB := hpl
        have hCBBBB := hC
        have GBBBB := G
        refine Y.loop (fun me_ ac wr => ∃ (z : Nat), me_ = p.nl - z ∧ Gr w13 wr ∧ z ≤ p.nl ∧ allN (talkB p) z = true ∧ Fr ac 201 [(3, Vi p.nt), (166, .slice la p.nl lc), (167, Vi p.nl), (168, Vi z)]) _ ⟨0, rfl, Gr.refl _, Nat.zero_le _, rfl, F.sub _⟩ ?_
        clear F
        intro me_ ac w15 hI
        obtain ⟨z, rfl, gr, hi0, hok, F⟩ := hI
        replace G := GBBBB.trans gr
        replace hC := hCBBBB.gr gr
        replace hpt := hptBBBB.gr gr
        replace hph := hphBBBB.gr gr
        replace hpb := hpbBBBB.gr gr
        replace hpl := hplBBBB.gr gr
        replace GB_ := GB_.trans gr
        replace GBB_ := GBB_.trans gr
        replace GBBB_ := GBBB_.trans gr
        have GBBBB_ := gr
        clear gr
        refine Y.sg F [(3, Vi p.nt), (166, .slice la p.nl lc), (167, Vi p.nl), (168, Vi z), (169, .bool (decide ((z : Int) < p.nl)))] (Y.pv F (X.binop rfl (F.ev 168 (Vi z)) (F.ev 167 (Vi p.nl)) (X.lssI Try.underlying3 rfl)) fun ac F=>Y.fin F) ?_;clear F ac;intro ac F
        refine Y.seq ?_
        cases h16 : decide ((z : Int) < p.nl) with
        | false =>
         try rw [h16] at F
         have h16p : ¬ ((z : Int) < p.nl) := of_decide_eq_false h16
         obtain rfl : z = p.nl := by omega
         have hall4 := hok
         refine Y.cF F 169 ?_
         refine Y.exit ?_
         refine X.thenX (X.thenX (X.blockX (X.thenN ?_)))
         refine Y.sk F 2 (Vi 0) ?_;clear F ac;intro ac F
         refine Y.ret ?_
         exact Y.ret0 (v := Vi 0) F (Y.r1 F) ⟨ret_int (chk_0 hbig hall1 hall2 hall3 hall4).symm, G⟩
        | true =>
         try rw [h16] at F
         have h16p : ((z : Int) < p.nl) := of_decide_eq_true h16
         have hi : z < p.nl := by omega
         refine Y.cT F 169 ?_
         refine Y.skip ?_
         refine X.thenN ?_
         refine Y.seq ?_
         refine Y.block ?_
         refine Y.sl ?_
         obtain ⟨pd17, pe17, -, pc17⟩ := hpl.at (j := z) (by omega)
         subst pe17
         replace hC := hC.append (show RCells w15 (Y.cs (pd17.add (z * 3)) [Vi (p.lv z 0), Vi (p.lv z 1), Vi (p.lv z 2)]) from (RCells.cons (pc17 0 (by decide)) (RCells.cons (pc17 1 (by decide)) (RCells.cons (pc17 2 (by decide)) (RCells.nil _)))))
         clear pc17
         refine Y.pv3 F (X.index rfl (F.ev 166 (.slice (some pd17) p.nl lc)) (F.ev 168 (Vi z)) (X.idx (k := z) Try.underlying25 (Try.siz84 _) (by omega) (by omega) rfl)) (fun _ F=>X.load rfl (F.ev 170 (.pointer (some (pd17.add (z * 3))))) (X.ldN (Try.agg84 _) (Try.siz84 _) (Y.atz (pd17.add (z * 3)) (Y.AtFrom.cons (hC.at 4 rfl) (Y.AtFrom.cons (hC.at 5 rfl) (Y.AtFrom.cons (hC.at 6 rfl) (Y.AtFrom.nil _ _ _))))))) (fun _ F=>Y.al rfl (Try.new84 _)) fun ac F=>Y.punit F (X.w0 rfl) rfl (X.store rfl (F.ev 15 (Vp w15.heap.size)) (F.ev 171 (.agg #[Vi (p.lv z 0), Vi (p.lv z 1), Vi (p.lv z 2)])) (Y.stNew [Vi (p.lv z 0), Vi (p.lv z 1), Vi (p.lv z 2)] [Vi 0, Vi 0, Vi 0] (Try.siz84 _) rfl rfl)) ?_;clear F ac;intro ac F
         obtain ⟨w18, hw_, g, hb, hbl, hC2⟩ := Y.bxd hC #[Vi (p.lv z 0), Vi (p.lv z 1), Vi (p.lv z 2)] 84;rw [hw_];clear hw_
         replace G := G.trans g
         replace hC := hC2
         clear hC2
         replace GB_ := GB_.trans g
         replace GBB_ := GBB_.trans g
         replace GBBB_ := GBBB_.trans g
         replace GBBBB_ := GBBBB_.trans g
         replace hpt := hpt.gr g
         replace hph := hph.gr g
         replace hpb := hpb.gr g
         replace hpl := hpl.gr g
         clear g hb hbl
         refine Y.nt F [(3, Vi p.nt), (15, Vp w15.heap.size), (166, .slice (some pd17) p.nl lc), (167, Vi p.nl), (168, Vi z)] ?_;clear F ac;intro ac F
         refine Y.sl ?_
         refine Y.pv4 F (X.field rfl (F.ev 15 (Vp w15.heap.size)) (X.fld Try.underlying84 rfl (Try.siz3 _) rfl rfl)) (fun _ F=>X.load rfl (F.ev 172 (Vp w15.heap.size)) (X.ld1 (Try.agg3 _) (hC.at 7 rfl))) (fun _ F=>X.move rfl (F.ev 3 (Vi p.nt))) (fun _ F=>X.binop rfl (F.ev 174 (Vi p.nt)) (X.kc (Vi 1) rfl) (X.subI Try.underlying3 rfl (by omega) (by omega))) fun ac F=>Y.pc F 56 (X.a3 (F.ev 173 (Vi (p.lv z 0))) (X.kc (Vi 0) rfl) (F.ev 175 (Vi ((p.nt : Int) - 1)))) Try.func56 (within_any (p.lv z 0) 0 ((p.nt : Int) - 1) w18) ?_
         clear F ac
         rintro e w' ⟨rfl, hw_⟩
         obtain rfl : w18 = w' := hw_.symm
         clear hw_
         refine ⟨_, rfl, ?_⟩
         intro ac F
         refine Y.pv2 F (X.notB rfl (F.ev 176 (.bool (withinB (p.lv z 0) 0 ((p.nt : Int) - 1)))) rfl) (fun _ F=>X.move rfl (F.ev 177 (.bool (!(withinB (p.lv z 0) 0 ((p.nt : Int) - 1)))))) ?_;clear F ac;intro ac F
         cases h19 : withinB (p.lv z 0) 0 ((p.nt : Int) - 1) with
         | false =>
          try rw [h19] at F
          refine Y.p5 F 6 178 true fun ac F=>Y.ps F 6 178 true fun ac F=>Y.pv2 F (X.pickT rfl (F.ev 178 (.bool true)) (X.kc (.bool true) rfl)) (fun _ F=>X.move rfl (F.ev 185 (.bool true))) fun ac F=>Y.p5 F 14 186 true fun ac F=>Y.pv2 F (X.pickT rfl (F.ev 186 (.bool true)) (X.kc (.bool true) rfl)) (fun _ F=>X.move rfl (F.ev 192 (.bool true))) fun ac F=>Y.p5 F 21 193 true fun ac F=>Y.pv F (X.pickT rfl (F.ev 193 (.bool true)) (X.kc (.bool true) rfl)) ?_;clear F ac;intro ac F
          refine Y.nt F [(3, Vi p.nt), (166, .slice (some pd17) p.nl lc), (167, Vi p.nl), (168, Vi z), (199, .bool true)] ?_;clear F ac;intro ac F
          refine Y.cT F 199 ?_
          refine Y.sk F 2 (Vi 32) ?_;clear F ac;intro ac F
          refine Y.ret ?_
          refine X.blockR (X.thenR (X.thenR (X.blockR (X.thenR ?_))))
          exact Y.ret0 (v := Vi 32) F (Y.r1 F) ⟨ret_int (chk_l hbig hall1 hall2 hall3 hi (by rw [talk_eq]; simp [h19])).symm, G⟩
         | true =>
          try rw [h19] at F
          refine Y.pg F 6 178 false (X.field rfl (F.ev 15 (Vp w15.heap.size)) (X.fld Try.underlying84 rfl (Try.siz3 _) rfl rfl)) fun ac F=>Y.pg F 6 178 false (X.load rfl (F.ev 179 (.pointer (some ⟨w15.heap.size, 1, none⟩))) (X.ld1 (Try.agg3 _) (hC.at 8 rfl))) fun ac F=>Y.pg F 6 178 false (X.move rfl (F.ev 3 (Vi p.nt))) fun ac F=>Y.pg F 6 178 false (X.binop rfl (F.ev 181 (Vi p.nt)) (X.kc (Vi 1) rfl) (X.subI Try.underlying3 rfl (by omega) (by omega))) ?_;clear F ac;intro ac F
          refine Y.pcall F (X.w1 rfl (F.yl (j := 6) (d := 178) (b := false) rfl (by kernel_rfl))) rfl (X.enter (F := 56) rfl (X.kc (.func (.func 56) #[] #[]) rfl) (X.a3 (F.ev 180 (Vi (p.lv z 1))) (X.kc (Vi 0) rfl) (F.ev 182 (Vi ((p.nt : Int) - 1)))) (enters_of Try.func56 (by kernel_rfl) rfl _)) (within_any (p.lv z 1) 0 ((p.nt : Int) - 1) w18) ?_
          clear F ac
          rintro e w' ⟨rfl, hw_⟩
          obtain rfl : w18 = w' := hw_.symm
          clear hw_
          refine ⟨_, rfl, ?_⟩
          intro ac F
          refine Y.pg F 6 178 false (X.notB rfl (F.ev 183 (.bool (withinB (p.lv z 1) 0 ((p.nt : Int) - 1)))) rfl) fun ac F=>Y.pv2 F (X.pickF rfl (F.ev 178 (.bool false)) (F.ev 184 (.bool (!(withinB (p.lv z 1) 0 ((p.nt : Int) - 1)))))) (fun _ F=>X.move rfl (F.ev 185 (.bool (!(withinB (p.lv z 1) 0 ((p.nt : Int) - 1)))))) ?_;clear F ac;intro ac F
          cases h20 : withinB (p.lv z 1) 0 ((p.nt : Int) - 1) with
          | false =>
           try rw [h20] at F
           refine Y.p5 F 14 186 true fun ac F=>Y.pv2 F (X.pickT rfl (F.ev 186 (.bool true)) (X.kc (.bool true) rfl)) (fun _ F=>X.move rfl (F.ev 192 (.bool true))) fun ac F=>Y.p5 F 21 193 true fun ac F=>Y.pv F (X.pickT rfl (F.ev 193 (.bool true)) (X.kc (.bool true) rfl)) ?_;clear F ac;intro ac F
           refine Y.nt F [(3, Vi p.nt), (166, .slice (some pd17) p.nl lc), (167, Vi p.nl), (168, Vi z), (199, .bool true)] ?_;clear F ac;intro ac F
           refine Y.cT F 199 ?_
           refine Y.sk F 2 (Vi 32) ?_;clear F ac;intro ac F
           refine Y.ret ?_
           refine X.blockR (X.thenR (X.thenR (X.blockR (X.thenR ?_))))
           exact Y.ret0 (v := Vi 32) F (Y.r1 F) ⟨ret_int (chk_l hbig hall1 hall2 hall3 hi (by rw [talk_eq]; simp [h19, h20])).symm, G⟩
          | true =>
           try rw [h20] at F
           refine Y.pg F 14 186 false (X.field rfl (F.ev 15 (Vp w15.heap.size)) (X.fld Try.underlying84 rfl (Try.siz3 _) rfl rfl)) fun ac F=>Y.pg F 14 186 false (X.load rfl (F.ev 187 (Vp w15.heap.size)) (X.ld1 (Try.agg3 _) (hC.at 7 rfl))) fun ac F=>Y.pg F 14 186 false (X.field rfl (F.ev 15 (Vp w15.heap.size)) (X.fld Try.underlying84 rfl (Try.siz3 _) rfl rfl)) fun ac F=>Y.pg F 14 186 false (X.load rfl (F.ev 189 (.pointer (some ⟨w15.heap.size, 1, none⟩))) (X.ld1 (Try.agg3 _) (hC.at 8 rfl))) fun ac F=>Y.pg F 14 186 false (X.binop rfl (F.ev 188 (Vi (p.lv z 0))) (F.ev 190 (Vi (p.lv z 1))) (X.eqlI Try.underlying3 rfl)) fun ac F=>Y.pv2 F (X.pickF rfl (F.ev 186 (.bool false)) (F.ev 191 (.bool ((p.lv z 0 : Int) == (p.lv z 1))))) (fun _ F=>X.move rfl (F.ev 192 (.bool ((p.lv z 0 : Int) == (p.lv z 1))))) ?_;clear F ac;intro ac F
           cases h21 : ((p.lv z 0 : Int) == (p.lv z 1)) with
           | false =>
            try rw [h21] at F
            have h21p : ¬ (p.lv z 0 : Int) = (p.lv z 1) := by simpa using h21
            refine Y.pg F 21 193 false (X.field rfl (F.ev 15 (Vp w15.heap.size)) (X.fld Try.underlying84 rfl (Try.siz3 _) rfl rfl)) fun ac F=>Y.pg F 21 193 false (X.load rfl (F.ev 194 (.pointer (some ⟨w15.heap.size, 2, none⟩))) (X.ld1 (Try.agg3 _) (hC.at 9 rfl))) fun ac F=>Y.pg F 21 193 false (X.bs rfl (X.b1 (F.ev 195 (Vi (p.lv z 2)))) (Try.bs34_1 (p.lv z 2) _)) ?_;clear F ac;intro ac F
            obtain ⟨w22, hw_, g, hb, hbl, hC2⟩ := Y.bxd hC #[Vi (p.lv z 2)] 3;rw [hw_];clear hw_
            replace G := G.trans g
            replace hC := hC2
            clear hC2
            replace GB_ := GB_.trans g
            replace GBB_ := GBB_.trans g
            replace GBBB_ := GBBB_.trans g
            replace GBBBB_ := GBBBB_.trans g
            replace hpt := hpt.gr g
            replace hph := hph.gr g
            replace hpb := hpb.gr g
            replace hpl := hpl.gr g
            clear g hb hbl
            refine Y.pcall F (X.w1 rfl (F.yl (j := 21) (d := 193) (b := false) rfl (by kernel_rfl))) rfl (X.enter (F := 55) rfl (X.kc (.func (.func 55) #[] #[]) rfl) (X.a1 (F.ev 196 (.slice (some ⟨w18.heap.size, 0, none⟩) 1 1))) (enters_of Try.func55 (by kernel_rfl) rfl _)) (by have hq := costs_any (some ⟨w18.heap.size, 0, none⟩) 1 1 [p.lv z 2] w22 (ints_1 (hC.at 10 rfl)); rw [all_1] at hq; exact hq) ?_
            clear F ac
            rintro e w23 ⟨rfl, g⟩
            refine ⟨_, rfl, ?_⟩
            intro ac F
            replace G := G.trans g
            replace hC := hC.gr g
            replace GB_ := GB_.trans g
            replace GBB_ := GBB_.trans g
            replace GBBB_ := GBBB_.trans g
            replace GBBBB_ := GBBBB_.trans g
            replace hpt := hpt.gr g
            replace hph := hph.gr g
            replace hpb := hpb.gr g
            replace hpl := hpl.gr g
            clear g
            refine Y.pg F 21 193 false (X.notB rfl (F.ev 197 (.bool (amtB (p.lv z 2)))) rfl) fun ac F=>Y.pv F (X.pickF rfl (F.ev 193 (.bool false)) (F.ev 198 (.bool (!(amtB (p.lv z 2)))))) ?_;clear F ac;intro ac F
            refine Y.nt F [(3, Vi p.nt), (166, .slice (some pd17) p.nl lc), (167, Vi p.nl), (168, Vi z), (199, .bool (!(amtB (p.lv z 2))))] ?_;clear F ac;intro ac F
            cases h24 : amtB (p.lv z 2) with
            | false =>
             try rw [h24] at F
             refine Y.cT F 199 ?_
             refine Y.sk F 2 (Vi 32) ?_;clear F ac;intro ac F
             refine Y.ret ?_
             refine X.blockR (X.thenR (X.thenR (X.blockR (X.thenR ?_))))
             exact Y.ret0 (v := Vi 32) F (Y.r1 F) ⟨ret_int (chk_l hbig hall1 hall2 hall3 hi (by rw [talk_eq]; simp [h21, h21p, h24, h19, h20])).symm, G⟩
            | true =>
             try rw [h24] at F
             refine Y.cF F 199 ?_
             refine Y.skip ?_
             refine X.blockN (X.thenN ?_)
             refine Y.lg F [(3, Vi p.nt), (166, .slice (some pd17) p.nl lc), (167, Vi p.nl), (168, Vi ((z : Int) + 1))] (by
              refine Y.pv F (X.binop rfl (F.ev 168 (Vi z)) (X.kc (Vi 1) rfl) (X.addI Try.underlying3 rfl (by omega) (by omega))) fun ac F=>?_
              refine Y.pv F (X.move rfl (F.ev 200 (Vi ((z : Int) + 1)))) fun ac F=>?_
              exact Y.fin F) ?_;clear F ac;intro ac F
             refine ⟨_, ?_, z + 1, rfl, GBBBB_, by omega, allN_succ hok (by rw [talk_eq]; simp [h21, h21p, h24, h19, h20]), F.sub _⟩
             omega
           | true =>
            try rw [h21] at F
            have h21p : (p.lv z 0 : Int) = (p.lv z 1) := by simpa using h21
            refine Y.p5 F 21 193 true fun ac F=>Y.pv F (X.pickT rfl (F.ev 193 (.bool true)) (X.kc (.bool true) rfl)) ?_;clear F ac;intro ac F
            refine Y.nt F [(3, Vi p.nt), (166, .slice (some pd17) p.nl lc), (167, Vi p.nl), (168, Vi z), (199, .bool true)] ?_;clear F ac;intro ac F
            refine Y.cT F 199 ?_
            refine Y.sk F 2 (Vi 32) ?_;clear F ac;intro ac F
            refine Y.ret ?_
            refine X.blockR (X.thenR (X.thenR (X.blockR (X.thenR ?_))))
            exact Y.ret0 (v := Vi 32) F (Y.r1 F) ⟨ret_int (chk_l hbig hall1 hall2 hall3 hi (by rw [talk_eq]; simp [h21, h21p, h19, h20])).symm, G⟩
       | true =>
        try rw [h14] at F
        have h14p : ((k : Int) < p.nb) := of_decide_eq_true h14
        have hi : k < p.nb := by omega
        refine Y.cT F 122 ?_
        refine Y.skip ?_
        refine X.thenN ?_
        refine Y.seq ?_
        refine Y.block ?_
        refine Y.sl ?_
        obtain ⟨pd25, pe25, -, pc25⟩ := hpb.at (j := k) (by omega)
        subst pe25
        replace hC := hC.append (show RCells w13 (Y.cs (pd25.add (k * 3)) [Vi (p.bv k 0), Vi (p.bv k 1), Vi (p.bv k 2)]) from (RCells.cons (pc25 0 (by decide)) (RCells.cons (pc25 1 (by decide)) (RCells.cons (pc25 2 (by decide)) (RCells.nil _)))))
        clear pc25
        refine Y.pv3 F (X.index rfl (F.ev 119 (.slice (some pd25) p.nb bc)) (F.ev 121 (Vi k)) (X.idx (k := k) Try.underlying24 (Try.siz65 _) (by omega) (by omega) rfl)) (fun _ F=>X.load rfl (F.ev 123 (.pointer (some (pd25.add (k * 3))))) (X.ldN (Try.agg65 _) (Try.siz65 _) (Y.atz (pd25.add (k * 3)) (Y.AtFrom.cons (hC.at 4 rfl) (Y.AtFrom.cons (hC.at 5 rfl) (Y.AtFrom.cons (hC.at 6 rfl) (Y.AtFrom.nil _ _ _))))))) (fun _ F=>Y.al rfl (Try.new65 _)) fun ac F=>Y.punit F (X.w0 rfl) rfl (X.store rfl (F.ev 12 (Vp w13.heap.size)) (F.ev 124 (.agg #[Vi (p.bv k 0), Vi (p.bv k 1), Vi (p.bv k 2)])) (Y.stNew [Vi (p.bv k 0), Vi (p.bv k 1), Vi (p.bv k 2)] [Vi 0, Vi 0, Vi 0] (Try.siz65 _) rfl rfl)) ?_;clear F ac;intro ac F
        obtain ⟨w26, hw_, g, hb, hbl, hC2⟩ := Y.bxd hC #[Vi (p.bv k 0), Vi (p.bv k 1), Vi (p.bv k 2)] 65;rw [hw_];clear hw_
        replace G := G.trans g
        replace hC := hC2
        clear hC2
        replace GB_ := GB_.trans g
        replace GBB_ := GBB_.trans g
        replace GBBB_ := GBBB_.trans g
        replace hpt := hpt.gr g
        replace hph := hph.gr g
        replace hpb := hpb.gr g
        replace hpl := hpl.gr g
        clear g hb hbl
        refine Y.nt F [(1, Vp w.heap.size), (3, Vi p.nt), (4, Vi p.nh), (12, Vp w13.heap.size), (119, .slice (some pd25) p.nb bc), (120, Vi p.nb), (121, Vi k)] ?_;clear F ac;intro ac F
        refine Y.sl ?_
        refine Y.pv4 F (X.field rfl (F.ev 12 (Vp w13.heap.size)) (X.fld Try.underlying65 rfl (Try.siz3 _) rfl rfl)) (fun _ F=>X.load rfl (F.ev 125 (.pointer (some ⟨w13.heap.size, 1, none⟩))) (X.ld1 (Try.agg3 _) (hC.at 8 rfl))) (fun _ F=>X.move rfl (F.ev 3 (Vi p.nt))) (fun _ F=>X.binop rfl (F.ev 127 (Vi p.nt)) (X.kc (Vi 1) rfl) (X.subI Try.underlying3 rfl (by omega) (by omega))) fun ac F=>Y.pc F 56 (X.a3 (F.ev 126 (Vi (p.bv k 1))) (X.kc (Vi 0) rfl) (F.ev 128 (Vi ((p.nt : Int) - 1)))) Try.func56 (within_any (p.bv k 1) 0 ((p.nt : Int) - 1) w26) ?_
        clear F ac
        rintro e w' ⟨rfl, hw_⟩
        obtain rfl : w26 = w' := hw_.symm
        clear hw_
        refine ⟨_, rfl, ?_⟩
        intro ac F
        refine Y.pv F (X.assign rfl (F.ev 129 (.bool (withinB (p.bv k 1) 0 ((p.nt : Int) - 1))))) ?_;clear F ac;intro ac F
        refine Y.nt F [(1, Vp w.heap.size), (3, Vi p.nt), (4, Vi p.nh), (12, Vp w13.heap.size), (13, .bool (withinB (p.bv k 1) 0 ((p.nt : Int) - 1))), (119, .slice (some pd25) p.nb bc), (120, Vi p.nb), (121, Vi k)] ?_;clear F ac;intro ac F
        refine Y.seq ?_
        refine Y.sg F [(1, Vp w.heap.size), (3, Vi p.nt), (4, Vi p.nh), (12, Vp w13.heap.size), (13, .bool (withinB (p.bv k 1) 0 ((p.nt : Int) - 1))), (119, .slice (some pd25) p.nb bc), (120, Vi p.nb), (121, Vi k), (131, Vi (p.bv k 0))] (by
         refine Y.pv F (X.field rfl (F.ev 12 (Vp w13.heap.size)) (X.fld Try.underlying65 rfl (Try.siz3 _) rfl rfl)) fun ac F=>?_
         refine Y.pv F (X.load rfl (F.ev 130 (Vp w13.heap.size)) (X.ld1 (Try.agg3 _) (hC.at 7 rfl))) fun ac F=>?_
         exact Y.fin F) ?_;clear F ac;intro ac F
        refine Y.block ?_
        refine Y.seq ?_
        refine Y.sg F [(1, Vp w.heap.size), (3, Vi p.nt), (4, Vi p.nh), (12, Vp w13.heap.size), (13, .bool (withinB (p.bv k 1) 0 ((p.nt : Int) - 1))), (119, .slice (some pd25) p.nb bc), (120, Vi p.nb), (121, Vi k), (131, Vi (p.bv k 0)), (132, .bool ((p.bv k 0 : Int) == 1))] (Y.pv F (X.binop rfl (F.ev 131 (Vi (p.bv k 0))) (X.kc (Vi 1) rfl) (X.eqlI Try.underlying3 rfl)) fun ac F=>Y.pv F (X.assign rfl (F.ev 133 (.bool ((p.bv k 0 : Int) == 1)))) fun ac F=>Y.fin F) ?_;clear F ac;intro ac F
        cases h27 : ((p.bv k 0 : Int) == 1) with
        | false =>
         try rw [h27] at F
         have h27p : ¬ (p.bv k 0 : Int) = 1 := by simpa using h27
         refine Y.cF F 132 ?_
         refine Y.sg F [(1, Vp w.heap.size), (3, Vi p.nt), (4, Vi p.nh), (12, Vp w13.heap.size), (13, .bool (withinB (p.bv k 1) 0 ((p.nt : Int) - 1))), (119, .slice (some pd25) p.nb bc), (120, Vi p.nb), (121, Vi k), (131, Vi (p.bv k 0)), (132, .bool ((p.bv k 0 : Int) == 2))] (Y.pv F (X.binop rfl (F.ev 131 (Vi (p.bv k 0))) (X.kc (Vi 2) rfl) (X.eqlI Try.underlying3 rfl)) fun ac F=>Y.pv F (X.assign rfl (F.ev 134 (.bool ((p.bv k 0 : Int) == 2)))) fun ac F=>Y.fin F) ?_;clear F ac;intro ac F
         cases h28 : ((p.bv k 0 : Int) == 2) with
         | false =>
          try rw [h28] at F
          have h28p : ¬ (p.bv k 0 : Int) = 2 := by simpa using h28
          refine Y.cF F 132 ?_
          refine Y.lg F [(1, Vp w.heap.size), (3, Vi p.nt), (4, Vi p.nh), (12, Vp w13.heap.size), (13, .bool (withinB (p.bv k 1) 0 ((p.nt : Int) - 1))), (119, .slice (some pd25) p.nb bc), (120, Vi p.nb), (121, Vi k), (131, Vi (p.bv k 0)), (132, .bool ((p.bv k 0 : Int) == 3))] (Y.pv F (X.binop rfl (F.ev 131 (Vi (p.bv k 0))) (X.kc (Vi 3) rfl) (X.eqlI Try.underlying3 rfl)) fun ac F=>Y.pv F (X.assign rfl (F.ev 135 (.bool ((p.bv k 0 : Int) == 3)))) fun ac F=>Y.fin F) ?_;clear F ac;intro ac F
          cases h29 : ((p.bv k 0 : Int) == 3) with
          | false =>
           try rw [h29] at F
           have h29p : ¬ (p.bv k 0 : Int) = 3 := by simpa using h29
           refine Y.cF F 132 ?_
           refine Y.seq ?_
           refine Y.sg F [(1, Vp w.heap.size), (3, Vi p.nt), (4, Vi p.nh), (12, Vp w13.heap.size), (13, .bool (withinB (p.bv k 1) 0 ((p.nt : Int) - 1))), (119, .slice (some pd25) p.nb bc), (120, Vi p.nb), (121, Vi k), (131, Vi (p.bv k 0)), (151, .bool ((p.bv k 0 : Int) == 4))] (Y.pv F (X.binop rfl (F.ev 131 (Vi (p.bv k 0))) (X.kc (Vi 4) rfl) (X.eqlI Try.underlying3 rfl)) fun ac F=>Y.pv F (X.assign rfl (F.ev 152 (.bool ((p.bv k 0 : Int) == 4)))) fun ac F=>Y.fin F) ?_;clear F ac;intro ac F
           cases h30 : ((p.bv k 0 : Int) == 4) with
           | false =>
            try rw [h30] at F
            have h30p : ¬ (p.bv k 0 : Int) = 4 := by simpa using h30
            refine Y.cF F 151 ?_
            refine Y.lg F [(1, Vp w.heap.size), (3, Vi p.nt), (4, Vi p.nh), (12, Vp w13.heap.size), (13, .bool (withinB (p.bv k 1) 0 ((p.nt : Int) - 1))), (119, .slice (some pd25) p.nb bc), (120, Vi p.nb), (121, Vi k), (151, .bool ((p.bv k 0 : Int) == 5))] (Y.pv F (X.binop rfl (F.ev 131 (Vi (p.bv k 0))) (X.kc (Vi 5) rfl) (X.eqlI Try.underlying3 rfl)) fun ac F=>Y.pv F (X.assign rfl (F.ev 153 (.bool ((p.bv k 0 : Int) == 5)))) fun ac F=>Y.fin F) ?_;clear F ac;intro ac F
            cases h31 : ((p.bv k 0 : Int) == 5) with
            | false =>
             try rw [h31] at F
             have h31p : ¬ (p.bv k 0 : Int) = 5 := by simpa using h31
             refine Y.cF F 151 ?_
             refine Y.lit (by kernel_rfl) ?_
             refine Y.pv F (X.assign rfl (X.kc (.bool false) rfl)) ?_;clear F ac;intro ac F
             refine Y.nil ?_
             replace F : Fr ac 201 [(1, Vp w.heap.size), (3, Vi p.nt), (4, Vi p.nh), (13, .bool false), (119, .slice (some pd25) p.nb bc), (120, Vi p.nb), (121, Vi k)] := F.sub _
             refine X.blockN (X.thenN ?_)
             refine Y.sg F [(1, Vp w.heap.size), (3, Vi p.nt), (4, Vi p.nh), (119, .slice (some pd25) p.nb bc), (120, Vi p.nb), (121, Vi k), (163, .bool true)] (Y.pv F (X.move rfl (F.ev 13 (.bool false))) fun ac F=>Y.pv F (X.notB rfl (F.ev 162 (.bool false)) rfl) fun ac F=>Y.fin F) ?_;clear F ac;intro ac F
             refine Y.cT F 163 ?_
             refine Y.sk F 2 (Vi 32) ?_;clear F ac;intro ac F
             refine Y.ret ?_
             refine X.blockR (X.thenR (X.thenR (X.blockR (X.thenR ?_))))
             exact Y.ret0 (v := Vi 32) F (Y.r1 F) ⟨ret_int (chk_b hbig hall1 hall2 hi (by rw [bond_eq]; simp [h27, h27p, h28, h28p, h29, h29p, h30, h30p, h31, h31p])).symm, G⟩
            | true =>
             try rw [h31] at F
             have h31p : (p.bv k 0 : Int) = 5 := by simpa using h31
             refine Y.cT F 151 ?_
             refine Y.lit (by kernel_rfl) ?_
             refine Y.pv2 F (X.move rfl (F.ev 13 (.bool (withinB (p.bv k 1) 0 ((p.nt : Int) - 1))))) (fun _ F=>X.move rfl (F.ev 154 (.bool (withinB (p.bv k 1) 0 ((p.nt : Int) - 1))))) ?_;clear F ac;intro ac F
             cases h32 : withinB (p.bv k 1) 0 ((p.nt : Int) - 1) with
             | false =>
              try rw [h32] at F
              refine Y.p5 F 1 155 false fun ac F=>Y.pv2 F (X.pickF rfl (F.ev 155 (.bool false)) (X.kc (.bool false) rfl)) (fun _ F=>X.assign rfl (F.ev 161 (.bool false))) ?_;clear F ac;intro ac F
              refine Y.nil ?_
              replace F : Fr ac 201 [(1, Vp w.heap.size), (3, Vi p.nt), (4, Vi p.nh), (13, .bool false), (119, .slice (some pd25) p.nb bc), (120, Vi p.nb), (121, Vi k)] := F.sub _
              refine X.blockN (X.thenN ?_)
              refine Y.sg F [(1, Vp w.heap.size), (3, Vi p.nt), (4, Vi p.nh), (119, .slice (some pd25) p.nb bc), (120, Vi p.nb), (121, Vi k), (163, .bool true)] (Y.pv F (X.move rfl (F.ev 13 (.bool false))) fun ac F=>Y.pv F (X.notB rfl (F.ev 162 (.bool false)) rfl) fun ac F=>Y.fin F) ?_;clear F ac;intro ac F
              refine Y.cT F 163 ?_
              refine Y.sk F 2 (Vi 32) ?_;clear F ac;intro ac F
              refine Y.ret ?_
              refine X.blockR (X.thenR (X.thenR (X.blockR (X.thenR ?_))))
              exact Y.ret0 (v := Vi 32) F (Y.r1 F) ⟨ret_int (chk_b hbig hall1 hall2 hi (by rw [bond_eq]; simp [h27, h27p, h28, h28p, h29, h29p, h30, h30p, h31, h31p, h32])).symm, G⟩
             | true =>
              try rw [h32] at F
              refine Y.pg F 1 155 true (X.field rfl (F.ev 12 (Vp w13.heap.size)) (X.fld Try.underlying65 rfl (Try.siz3 _) rfl rfl)) fun ac F=>Y.pg F 1 155 true (X.load rfl (F.ev 156 (.pointer (some ⟨w13.heap.size, 2, none⟩))) (X.ld1 (Try.agg3 _) (hC.at 9 rfl))) fun ac F=>Y.pg F 1 155 true (X.move rfl (F.ev 4 (Vi p.nh))) fun ac F=>Y.pg F 1 155 true (X.binop rfl (F.ev 158 (Vi p.nh)) (X.kc (Vi 1) rfl) (X.subI Try.underlying3 rfl (by omega) (by omega))) ?_;clear F ac;intro ac F
              refine Y.pcall F (X.w1 rfl (F.yl (j := 1) (d := 155) (b := true) rfl (by kernel_rfl))) rfl (X.enter (F := 56) rfl (X.kc (.func (.func 56) #[] #[]) rfl) (X.a3 (F.ev 157 (Vi (p.bv k 2))) (X.kc (Vi 0) rfl) (F.ev 159 (Vi ((p.nh : Int) - 1)))) (enters_of Try.func56 (by kernel_rfl) rfl _)) (within_any (p.bv k 2) 0 ((p.nh : Int) - 1) w26) ?_
              clear F ac
              rintro e w' ⟨rfl, hw_⟩
              obtain rfl : w26 = w' := hw_.symm
              clear hw_
              refine ⟨_, rfl, ?_⟩
              intro ac F
              refine Y.pv2 F (X.pickT rfl (F.ev 155 (.bool true)) (F.ev 160 (.bool (withinB (p.bv k 2) 0 ((p.nh : Int) - 1))))) (fun _ F=>X.assign rfl (F.ev 161 (.bool (withinB (p.bv k 2) 0 ((p.nh : Int) - 1))))) ?_;clear F ac;intro ac F
              refine Y.nil ?_
              replace F : Fr ac 201 [(1, Vp w.heap.size), (3, Vi p.nt), (4, Vi p.nh), (13, .bool (withinB (p.bv k 2) 0 ((p.nh : Int) - 1))), (119, .slice (some pd25) p.nb bc), (120, Vi p.nb), (121, Vi k)] := F.sub _
              refine X.blockN (X.thenN ?_)
              refine Y.sg F [(1, Vp w.heap.size), (3, Vi p.nt), (4, Vi p.nh), (119, .slice (some pd25) p.nb bc), (120, Vi p.nb), (121, Vi k), (163, .bool (!(withinB (p.bv k 2) 0 ((p.nh : Int) - 1))))] (Y.pv F (X.move rfl (F.ev 13 (.bool (withinB (p.bv k 2) 0 ((p.nh : Int) - 1))))) fun ac F=>Y.pv F (X.notB rfl (F.ev 162 (.bool (withinB (p.bv k 2) 0 ((p.nh : Int) - 1)))) rfl) fun ac F=>Y.fin F) ?_;clear F ac;intro ac F
              cases h33 : withinB (p.bv k 2) 0 ((p.nh : Int) - 1) with
              | false =>
               try rw [h33] at F
               refine Y.cT F 163 ?_
               refine Y.sk F 2 (Vi 32) ?_;clear F ac;intro ac F
               refine Y.ret ?_
               refine X.blockR (X.thenR (X.thenR (X.blockR (X.thenR ?_))))
               exact Y.ret0 (v := Vi 32) F (Y.r1 F) ⟨ret_int (chk_b hbig hall1 hall2 hi (by rw [bond_eq]; simp [h27, h27p, h28, h28p, h29, h29p, h30, h30p, h31, h31p, h32, h33])).symm, G⟩
              | true =>
               try rw [h33] at F
               refine Y.cF F 163 ?_
               refine Y.skip ?_
               refine X.blockN (X.thenN ?_)
               refine Y.lg F [(1, Vp w.heap.size), (3, Vi p.nt), (4, Vi p.nh), (119, .slice (some pd25) p.nb bc), (120, Vi p.nb), (121, Vi ((k : Int) + 1))] (by
                refine Y.pv F (X.binop rfl (F.ev 121 (Vi k)) (X.kc (Vi 1) rfl) (X.addI Try.underlying3 rfl (by omega) (by omega))) fun ac F=>?_
                refine Y.pv F (X.move rfl (F.ev 164 (Vi ((k : Int) + 1)))) fun ac F=>?_
                exact Y.fin F) ?_;clear F ac;intro ac F
               refine ⟨_, ?_, k + 1, rfl, GBBB_, by omega, allN_succ hok (by rw [bond_eq]; simp [h27, h27p, h28, h28p, h29, h29p, h30, h30p, h31, h31p, h32, h33]), F.sub _⟩
               omega
           | true =>
            try rw [h30] at F
            have h30p : (p.bv k 0 : Int) = 4 := by simpa using h30
            refine Y.cT F 151 ?_
            refine Y.skip ?_
            refine X.thenN ?_
            refine Y.cT F 151 ?_
            refine Y.lit (by kernel_rfl) ?_
            refine Y.pv2 F (X.move rfl (F.ev 13 (.bool (withinB (p.bv k 1) 0 ((p.nt : Int) - 1))))) (fun _ F=>X.move rfl (F.ev 154 (.bool (withinB (p.bv k 1) 0 ((p.nt : Int) - 1))))) ?_;clear F ac;intro ac F
            cases h34 : withinB (p.bv k 1) 0 ((p.nt : Int) - 1) with
            | false =>
             try rw [h34] at F
             refine Y.p5 F 1 155 false fun ac F=>Y.pv2 F (X.pickF rfl (F.ev 155 (.bool false)) (X.kc (.bool false) rfl)) (fun _ F=>X.assign rfl (F.ev 161 (.bool false))) ?_;clear F ac;intro ac F
             refine Y.nil ?_
             replace F : Fr ac 201 [(1, Vp w.heap.size), (3, Vi p.nt), (4, Vi p.nh), (13, .bool false), (119, .slice (some pd25) p.nb bc), (120, Vi p.nb), (121, Vi k)] := F.sub _
             refine X.blockN (X.thenN ?_)
             refine Y.sg F [(1, Vp w.heap.size), (3, Vi p.nt), (4, Vi p.nh), (119, .slice (some pd25) p.nb bc), (120, Vi p.nb), (121, Vi k), (163, .bool true)] (Y.pv F (X.move rfl (F.ev 13 (.bool false))) fun ac F=>Y.pv F (X.notB rfl (F.ev 162 (.bool false)) rfl) fun ac F=>Y.fin F) ?_;clear F ac;intro ac F
             refine Y.cT F 163 ?_
             refine Y.sk F 2 (Vi 32) ?_;clear F ac;intro ac F
             refine Y.ret ?_
             refine X.blockR (X.thenR (X.thenR (X.blockR (X.thenR ?_))))
             exact Y.ret0 (v := Vi 32) F (Y.r1 F) ⟨ret_int (chk_b hbig hall1 hall2 hi (by rw [bond_eq]; simp [h27, h27p, h28, h28p, h29, h29p, h30, h30p, h34])).symm, G⟩
            | true =>
             try rw [h34] at F
             refine Y.pg F 1 155 true (X.field rfl (F.ev 12 (Vp w13.heap.size)) (X.fld Try.underlying65 rfl (Try.siz3 _) rfl rfl)) fun ac F=>Y.pg F 1 155 true (X.load rfl (F.ev 156 (.pointer (some ⟨w13.heap.size, 2, none⟩))) (X.ld1 (Try.agg3 _) (hC.at 9 rfl))) fun ac F=>Y.pg F 1 155 true (X.move rfl (F.ev 4 (Vi p.nh))) fun ac F=>Y.pg F 1 155 true (X.binop rfl (F.ev 158 (Vi p.nh)) (X.kc (Vi 1) rfl) (X.subI Try.underlying3 rfl (by omega) (by omega))) ?_;clear F ac;intro ac F
             refine Y.pcall F (X.w1 rfl (F.yl (j := 1) (d := 155) (b := true) rfl (by kernel_rfl))) rfl (X.enter (F := 56) rfl (X.kc (.func (.func 56) #[] #[]) rfl) (X.a3 (F.ev 157 (Vi (p.bv k 2))) (X.kc (Vi 0) rfl) (F.ev 159 (Vi ((p.nh : Int) - 1)))) (enters_of Try.func56 (by kernel_rfl) rfl _)) (within_any (p.bv k 2) 0 ((p.nh : Int) - 1) w26) ?_
             clear F ac
             rintro e w' ⟨rfl, hw_⟩
             obtain rfl : w26 = w' := hw_.symm
             clear hw_
             refine ⟨_, rfl, ?_⟩
             intro ac F
             refine Y.pv2 F (X.pickT rfl (F.ev 155 (.bool true)) (F.ev 160 (.bool (withinB (p.bv k 2) 0 ((p.nh : Int) - 1))))) (fun _ F=>X.assign rfl (F.ev 161 (.bool (withinB (p.bv k 2) 0 ((p.nh : Int) - 1))))) ?_;clear F ac;intro ac F
             refine Y.nil ?_
             replace F : Fr ac 201 [(1, Vp w.heap.size), (3, Vi p.nt), (4, Vi p.nh), (13, .bool (withinB (p.bv k 2) 0 ((p.nh : Int) - 1))), (119, .slice (some pd25) p.nb bc), (120, Vi p.nb), (121, Vi k)] := F.sub _
             refine X.blockN (X.thenN ?_)
             refine Y.sg F [(1, Vp w.heap.size), (3, Vi p.nt), (4, Vi p.nh), (119, .slice (some pd25) p.nb bc), (120, Vi p.nb), (121, Vi k), (163, .bool (!(withinB (p.bv k 2) 0 ((p.nh : Int) - 1))))] (Y.pv F (X.move rfl (F.ev 13 (.bool (withinB (p.bv k 2) 0 ((p.nh : Int) - 1))))) fun ac F=>Y.pv F (X.notB rfl (F.ev 162 (.bool (withinB (p.bv k 2) 0 ((p.nh : Int) - 1)))) rfl) fun ac F=>Y.fin F) ?_;clear F ac;intro ac F
             cases h35 : withinB (p.bv k 2) 0 ((p.nh : Int) - 1) with
             | false =>
              try rw [h35] at F
              refine Y.cT F 163 ?_
              refine Y.sk F 2 (Vi 32) ?_;clear F ac;intro ac F
              refine Y.ret ?_
              refine X.blockR (X.thenR (X.thenR (X.blockR (X.thenR ?_))))
              exact Y.ret0 (v := Vi 32) F (Y.r1 F) ⟨ret_int (chk_b hbig hall1 hall2 hi (by rw [bond_eq]; simp [h27, h27p, h28, h28p, h29, h29p, h30, h30p, h34, h35])).symm, G⟩
             | true =>
              try rw [h35] at F
              refine Y.cF F 163 ?_
              refine Y.skip ?_
              refine X.blockN (X.thenN ?_)
              refine Y.lg F [(1, Vp w.heap.size), (3, Vi p.nt), (4, Vi p.nh), (119, .slice (some pd25) p.nb bc), (120, Vi p.nb), (121, Vi ((k : Int) + 1))] (by
               refine Y.pv F (X.binop rfl (F.ev 121 (Vi k)) (X.kc (Vi 1) rfl) (X.addI Try.underlying3 rfl (by omega) (by omega))) fun ac F=>?_
               refine Y.pv F (X.move rfl (F.ev 164 (Vi ((k : Int) + 1)))) fun ac F=>?_
               exact Y.fin F) ?_;clear F ac;intro ac F
              refine ⟨_, ?_, k + 1, rfl, GBBB_, by omega, allN_succ hok (by rw [bond_eq]; simp [h27, h27p, h28, h28p, h29, h29p, h30, h30p, h34, h35]), F.sub _⟩
              omega
          | true =>
           try rw [h29] at F
           have h29p : (p.bv k 0 : Int) = 3 := by simpa using h29
           refine Y.cT F 132 ?_
           refine Y.lit (by kernel_rfl) ?_
           refine Y.pv2 F (X.move rfl (F.ev 13 (.bool (withinB (p.bv k 1) 0 ((p.nt : Int) - 1))))) (fun _ F=>X.move rfl (F.ev 136 (.bool (withinB (p.bv k 1) 0 ((p.nt : Int) - 1))))) ?_;clear F ac;intro ac F
           cases h36 : withinB (p.bv k 1) 0 ((p.nt : Int) - 1) with
           | false =>
            try rw [h36] at F
            refine Y.p5 F 1 137 false fun ac F=>Y.pv2 F (X.pickF rfl (F.ev 137 (.bool false)) (X.kc (.bool false) rfl)) (fun _ F=>X.move rfl (F.ev 143 (.bool false))) fun ac F=>Y.p5 F 8 144 false fun ac F=>Y.pv2 F (X.pickF rfl (F.ev 144 (.bool false)) (X.kc (.bool false) rfl)) (fun _ F=>X.assign rfl (F.ev 150 (.bool false))) ?_;clear F ac;intro ac F
            refine Y.nil ?_
            replace F : Fr ac 201 [(1, Vp w.heap.size), (3, Vi p.nt), (4, Vi p.nh), (13, .bool false), (119, .slice (some pd25) p.nb bc), (120, Vi p.nb), (121, Vi k)] := F.sub _
            refine X.blockN (X.thenN ?_)
            refine Y.sg F [(1, Vp w.heap.size), (3, Vi p.nt), (4, Vi p.nh), (119, .slice (some pd25) p.nb bc), (120, Vi p.nb), (121, Vi k), (163, .bool true)] (Y.pv F (X.move rfl (F.ev 13 (.bool false))) fun ac F=>Y.pv F (X.notB rfl (F.ev 162 (.bool false)) rfl) fun ac F=>Y.fin F) ?_;clear F ac;intro ac F
            refine Y.cT F 163 ?_
            refine Y.sk F 2 (Vi 32) ?_;clear F ac;intro ac F
            refine Y.ret ?_
            refine X.blockR (X.thenR (X.thenR (X.blockR (X.thenR ?_))))
            exact Y.ret0 (v := Vi 32) F (Y.r1 F) ⟨ret_int (chk_b hbig hall1 hall2 hi (by rw [bond_eq]; simp [h27, h27p, h28, h28p, h29, h29p, h36])).symm, G⟩
           | true =>
            try rw [h36] at F
            refine Y.pg F 1 137 true (X.field rfl (F.ev 12 (Vp w13.heap.size)) (X.fld Try.underlying65 rfl (Try.siz3 _) rfl rfl)) fun ac F=>Y.pg F 1 137 true (X.load rfl (F.ev 138 (.pointer (some ⟨w13.heap.size, 2, none⟩))) (X.ld1 (Try.agg3 _) (hC.at 9 rfl))) fun ac F=>Y.pg F 1 137 true (X.move rfl (F.ev 3 (Vi p.nt))) fun ac F=>Y.pg F 1 137 true (X.binop rfl (F.ev 140 (Vi p.nt)) (X.kc (Vi 1) rfl) (X.subI Try.underlying3 rfl (by omega) (by omega))) ?_;clear F ac;intro ac F
            refine Y.pcall F (X.w1 rfl (F.yl (j := 1) (d := 137) (b := true) rfl (by kernel_rfl))) rfl (X.enter (F := 56) rfl (X.kc (.func (.func 56) #[] #[]) rfl) (X.a3 (F.ev 139 (Vi (p.bv k 2))) (X.kc (Vi 0) rfl) (F.ev 141 (Vi ((p.nt : Int) - 1)))) (enters_of Try.func56 (by kernel_rfl) rfl _)) (within_any (p.bv k 2) 0 ((p.nt : Int) - 1) w26) ?_
            clear F ac
            rintro e w' ⟨rfl, hw_⟩
            obtain rfl : w26 = w' := hw_.symm
            clear hw_
            refine ⟨_, rfl, ?_⟩
            intro ac F
            refine Y.pv2 F (X.pickT rfl (F.ev 137 (.bool true)) (F.ev 142 (.bool (withinB (p.bv k 2) 0 ((p.nt : Int) - 1))))) (fun _ F=>X.move rfl (F.ev 143 (.bool (withinB (p.bv k 2) 0 ((p.nt : Int) - 1))))) ?_;clear F ac;intro ac F
            cases h37 : withinB (p.bv k 2) 0 ((p.nt : Int) - 1) with
            | false =>
             try rw [h37] at F
             refine Y.p5 F 8 144 false fun ac F=>Y.pv2 F (X.pickF rfl (F.ev 144 (.bool false)) (X.kc (.bool false) rfl)) (fun _ F=>X.assign rfl (F.ev 150 (.bool false))) ?_;clear F ac;intro ac F
             refine Y.nil ?_
             replace F : Fr ac 201 [(1, Vp w.heap.size), (3, Vi p.nt), (4, Vi p.nh), (13, .bool false), (119, .slice (some pd25) p.nb bc), (120, Vi p.nb), (121, Vi k)] := F.sub _
             refine X.blockN (X.thenN ?_)
             refine Y.sg F [(1, Vp w.heap.size), (3, Vi p.nt), (4, Vi p.nh), (119, .slice (some pd25) p.nb bc), (120, Vi p.nb), (121, Vi k), (163, .bool true)] (Y.pv F (X.move rfl (F.ev 13 (.bool false))) fun ac F=>Y.pv F (X.notB rfl (F.ev 162 (.bool false)) rfl) fun ac F=>Y.fin F) ?_;clear F ac;intro ac F
             refine Y.cT F 163 ?_
             refine Y.sk F 2 (Vi 32) ?_;clear F ac;intro ac F
             refine Y.ret ?_
             refine X.blockR (X.thenR (X.thenR (X.blockR (X.thenR ?_))))
             exact Y.ret0 (v := Vi 32) F (Y.r1 F) ⟨ret_int (chk_b hbig hall1 hall2 hi (by rw [bond_eq]; simp [h27, h27p, h28, h28p, h29, h29p, h36, h37])).symm, G⟩
            | true =>
             try rw [h37] at F
             refine Y.pg F 8 144 true (X.field rfl (F.ev 12 (Vp w13.heap.size)) (X.fld Try.underlying65 rfl (Try.siz3 _) rfl rfl)) fun ac F=>Y.pg F 8 144 true (X.load rfl (F.ev 145 (.pointer (some ⟨w13.heap.size, 1, none⟩))) (X.ld1 (Try.agg3 _) (hC.at 8 rfl))) fun ac F=>Y.pg F 8 144 true (X.field rfl (F.ev 12 (Vp w13.heap.size)) (X.fld Try.underlying65 rfl (Try.siz3 _) rfl rfl)) fun ac F=>Y.pg F 8 144 true (X.load rfl (F.ev 147 (.pointer (some ⟨w13.heap.size, 2, none⟩))) (X.ld1 (Try.agg3 _) (hC.at 9 rfl))) fun ac F=>Y.pg F 8 144 true (X.binop rfl (F.ev 146 (Vi (p.bv k 1))) (F.ev 148 (Vi (p.bv k 2))) (X.neqI Try.underlying3 rfl)) fun ac F=>Y.pv2 F (X.pickT rfl (F.ev 144 (.bool true)) (F.ev 149 (.bool ((p.bv k 1 : Int) != (p.bv k 2))))) (fun _ F=>X.assign rfl (F.ev 150 (.bool ((p.bv k 1 : Int) != (p.bv k 2))))) ?_;clear F ac;intro ac F
             refine Y.nil ?_
             replace F : Fr ac 201 [(1, Vp w.heap.size), (3, Vi p.nt), (4, Vi p.nh), (13, .bool ((p.bv k 1 : Int) != (p.bv k 2))), (119, .slice (some pd25) p.nb bc), (120, Vi p.nb), (121, Vi k)] := F.sub _
             refine X.blockN (X.thenN ?_)
             refine Y.sg F [(1, Vp w.heap.size), (3, Vi p.nt), (4, Vi p.nh), (119, .slice (some pd25) p.nb bc), (120, Vi p.nb), (121, Vi k), (163, .bool (!((p.bv k 1 : Int) != (p.bv k 2))))] (Y.pv F (X.move rfl (F.ev 13 (.bool ((p.bv k 1 : Int) != (p.bv k 2))))) fun ac F=>Y.pv F (X.notB rfl (F.ev 162 (.bool ((p.bv k 1 : Int) != (p.bv k 2)))) rfl) fun ac F=>Y.fin F) ?_;clear F ac;intro ac F
             cases h38 : (p.bv k 1 : Int) != (p.bv k 2) with
             | false =>
              try rw [h38] at F
              have h38p : (p.bv k 1 : Int) = (p.bv k 2) := by simpa using h38
              refine Y.cT F 163 ?_
              refine Y.sk F 2 (Vi 32) ?_;clear F ac;intro ac F
              refine Y.ret ?_
              refine X.blockR (X.thenR (X.thenR (X.blockR (X.thenR ?_))))
              exact Y.ret0 (v := Vi 32) F (Y.r1 F) ⟨ret_int (chk_b hbig hall1 hall2 hi (by rw [bond_eq]; simp [h27, h27p, h28, h28p, h29, h29p, h38, h38p, h36, h37])).symm, G⟩
             | true =>
              try rw [h38] at F
              have h38p : ¬ (p.bv k 1 : Int) = (p.bv k 2) := by simpa using h38
              refine Y.cF F 163 ?_
              refine Y.skip ?_
              refine X.blockN (X.thenN ?_)
              refine Y.lg F [(1, Vp w.heap.size), (3, Vi p.nt), (4, Vi p.nh), (119, .slice (some pd25) p.nb bc), (120, Vi p.nb), (121, Vi ((k : Int) + 1))] (by
               refine Y.pv F (X.binop rfl (F.ev 121 (Vi k)) (X.kc (Vi 1) rfl) (X.addI Try.underlying3 rfl (by omega) (by omega))) fun ac F=>?_
               refine Y.pv F (X.move rfl (F.ev 164 (Vi ((k : Int) + 1)))) fun ac F=>?_
               exact Y.fin F) ?_;clear F ac;intro ac F
              refine ⟨_, ?_, k + 1, rfl, GBBB_, by omega, allN_succ hok (by rw [bond_eq]; simp [h27, h27p, h28, h28p, h29, h29p, h38, h38p, h36, h37]), F.sub _⟩
              omega
         | true =>
          try rw [h28] at F
          have h28p : (p.bv k 0 : Int) = 2 := by simpa using h28
          refine Y.cT F 132 ?_
          refine Y.skip ?_
          refine X.thenN ?_
          refine Y.cT F 132 ?_
          refine Y.lit (by kernel_rfl) ?_
          refine Y.pv2 F (X.move rfl (F.ev 13 (.bool (withinB (p.bv k 1) 0 ((p.nt : Int) - 1))))) (fun _ F=>X.move rfl (F.ev 136 (.bool (withinB (p.bv k 1) 0 ((p.nt : Int) - 1))))) ?_;clear F ac;intro ac F
          cases h39 : withinB (p.bv k 1) 0 ((p.nt : Int) - 1) with
          | false =>
           try rw [h39] at F
           refine Y.p5 F 1 137 false fun ac F=>Y.pv2 F (X.pickF rfl (F.ev 137 (.bool false)) (X.kc (.bool false) rfl)) (fun _ F=>X.move rfl (F.ev 143 (.bool false))) fun ac F=>Y.p5 F 8 144 false fun ac F=>Y.pv2 F (X.pickF rfl (F.ev 144 (.bool false)) (X.kc (.bool false) rfl)) (fun _ F=>X.assign rfl (F.ev 150 (.bool false))) ?_;clear F ac;intro ac F
           refine Y.nil ?_
           replace F : Fr ac 201 [(1, Vp w.heap.size), (3, Vi p.nt), (4, Vi p.nh), (13, .bool false), (119, .slice (some pd25) p.nb bc), (120, Vi p.nb), (121, Vi k)] := F.sub _
           refine X.blockN (X.thenN ?_)
           refine Y.sg F [(1, Vp w.heap.size), (3, Vi p.nt), (4, Vi p.nh), (119, .slice (some pd25) p.nb bc), (120, Vi p.nb), (121, Vi k), (163, .bool true)] (Y.pv F (X.move rfl (F.ev 13 (.bool false))) fun ac F=>Y.pv F (X.notB rfl (F.ev 162 (.bool false)) rfl) fun ac F=>Y.fin F) ?_;clear F ac;intro ac F
           refine Y.cT F 163 ?_
           refine Y.sk F 2 (Vi 32) ?_;clear F ac;intro ac F
           refine Y.ret ?_
           refine X.blockR (X.thenR (X.thenR (X.blockR (X.thenR ?_))))
           exact Y.ret0 (v := Vi 32) F (Y.r1 F) ⟨ret_int (chk_b hbig hall1 hall2 hi (by rw [bond_eq]; simp [h27, h27p, h28, h28p, h39])).symm, G⟩
          | true =>
           try rw [h39] at F
           refine Y.pg F 1 137 true (X.field rfl (F.ev 12 (Vp w13.heap.size)) (X.fld Try.underlying65 rfl (Try.siz3 _) rfl rfl)) fun ac F=>Y.pg F 1 137 true (X.load rfl (F.ev 138 (.pointer (some ⟨w13.heap.size, 2, none⟩))) (X.ld1 (Try.agg3 _) (hC.at 9 rfl))) fun ac F=>Y.pg F 1 137 true (X.move rfl (F.ev 3 (Vi p.nt))) fun ac F=>Y.pg F 1 137 true (X.binop rfl (F.ev 140 (Vi p.nt)) (X.kc (Vi 1) rfl) (X.subI Try.underlying3 rfl (by omega) (by omega))) ?_;clear F ac;intro ac F
           refine Y.pcall F (X.w1 rfl (F.yl (j := 1) (d := 137) (b := true) rfl (by kernel_rfl))) rfl (X.enter (F := 56) rfl (X.kc (.func (.func 56) #[] #[]) rfl) (X.a3 (F.ev 139 (Vi (p.bv k 2))) (X.kc (Vi 0) rfl) (F.ev 141 (Vi ((p.nt : Int) - 1)))) (enters_of Try.func56 (by kernel_rfl) rfl _)) (within_any (p.bv k 2) 0 ((p.nt : Int) - 1) w26) ?_
           clear F ac
           rintro e w' ⟨rfl, hw_⟩
           obtain rfl : w26 = w' := hw_.symm
           clear hw_
           refine ⟨_, rfl, ?_⟩
           intro ac F
           refine Y.pv2 F (X.pickT rfl (F.ev 137 (.bool true)) (F.ev 142 (.bool (withinB (p.bv k 2) 0 ((p.nt : Int) - 1))))) (fun _ F=>X.move rfl (F.ev 143 (.bool (withinB (p.bv k 2) 0 ((p.nt : Int) - 1))))) ?_;clear F ac;intro ac F
           cases h40 : withinB (p.bv k 2) 0 ((p.nt : Int) - 1) with
           | false =>
            try rw [h40] at F
            refine Y.p5 F 8 144 false fun ac F=>Y.pv2 F (X.pickF rfl (F.ev 144 (.bool false)) (X.kc (.bool false) rfl)) (fun _ F=>X.assign rfl (F.ev 150 (.bool false))) ?_;clear F ac;intro ac F
            refine Y.nil ?_
            replace F : Fr ac 201 [(1, Vp w.heap.size), (3, Vi p.nt), (4, Vi p.nh), (13, .bool false), (119, .slice (some pd25) p.nb bc), (120, Vi p.nb), (121, Vi k)] := F.sub _
            refine X.blockN (X.thenN ?_)
            refine Y.sg F [(1, Vp w.heap.size), (3, Vi p.nt), (4, Vi p.nh), (119, .slice (some pd25) p.nb bc), (120, Vi p.nb), (121, Vi k), (163, .bool true)] (Y.pv F (X.move rfl (F.ev 13 (.bool false))) fun ac F=>Y.pv F (X.notB rfl (F.ev 162 (.bool false)) rfl) fun ac F=>Y.fin F) ?_;clear F ac;intro ac F
            refine Y.cT F 163 ?_
            refine Y.sk F 2 (Vi 32) ?_;clear F ac;intro ac F
            refine Y.ret ?_
            refine X.blockR (X.thenR (X.thenR (X.blockR (X.thenR ?_))))
            exact Y.ret0 (v := Vi 32) F (Y.r1 F) ⟨ret_int (chk_b hbig hall1 hall2 hi (by rw [bond_eq]; simp [h27, h27p, h28, h28p, h39, h40])).symm, G⟩
           | true =>
            try rw [h40] at F
            refine Y.pg F 8 144 true (X.field rfl (F.ev 12 (Vp w13.heap.size)) (X.fld Try.underlying65 rfl (Try.siz3 _) rfl rfl)) fun ac F=>Y.pg F 8 144 true (X.load rfl (F.ev 145 (.pointer (some ⟨w13.heap.size, 1, none⟩))) (X.ld1 (Try.agg3 _) (hC.at 8 rfl))) fun ac F=>Y.pg F 8 144 true (X.field rfl (F.ev 12 (Vp w13.heap.size)) (X.fld Try.underlying65 rfl (Try.siz3 _) rfl rfl)) fun ac F=>Y.pg F 8 144 true (X.load rfl (F.ev 147 (.pointer (some ⟨w13.heap.size, 2, none⟩))) (X.ld1 (Try.agg3 _) (hC.at 9 rfl))) fun ac F=>Y.pg F 8 144 true (X.binop rfl (F.ev 146 (Vi (p.bv k 1))) (F.ev 148 (Vi (p.bv k 2))) (X.neqI Try.underlying3 rfl)) fun ac F=>Y.pv2 F (X.pickT rfl (F.ev 144 (.bool true)) (F.ev 149 (.bool ((p.bv k 1 : Int) != (p.bv k 2))))) (fun _ F=>X.assign rfl (F.ev 150 (.bool ((p.bv k 1 : Int) != (p.bv k 2))))) ?_;clear F ac;intro ac F
            refine Y.nil ?_
            replace F : Fr ac 201 [(1, Vp w.heap.size), (3, Vi p.nt), (4, Vi p.nh), (13, .bool ((p.bv k 1 : Int) != (p.bv k 2))), (119, .slice (some pd25) p.nb bc), (120, Vi p.nb), (121, Vi k)] := F.sub _
            refine X.blockN (X.thenN ?_)
            refine Y.sg F [(1, Vp w.heap.size), (3, Vi p.nt), (4, Vi p.nh), (119, .slice (some pd25) p.nb bc), (120, Vi p.nb), (121, Vi k), (163, .bool (!((p.bv k 1 : Int) != (p.bv k 2))))] (Y.pv F (X.move rfl (F.ev 13 (.bool ((p.bv k 1 : Int) != (p.bv k 2))))) fun ac F=>Y.pv F (X.notB rfl (F.ev 162 (.bool ((p.bv k 1 : Int) != (p.bv k 2)))) rfl) fun ac F=>Y.fin F) ?_;clear F ac;intro ac F
            cases h41 : (p.bv k 1 : Int) != (p.bv k 2) with
            | false =>
             try rw [h41] at F
             have h41p : (p.bv k 1 : Int) = (p.bv k 2) := by simpa using h41
             refine Y.cT F 163 ?_
             refine Y.sk F 2 (Vi 32) ?_;clear F ac;intro ac F
             refine Y.ret ?_
             refine X.blockR (X.thenR (X.thenR (X.blockR (X.thenR ?_))))
             exact Y.ret0 (v := Vi 32) F (Y.r1 F) ⟨ret_int (chk_b hbig hall1 hall2 hi (by rw [bond_eq]; simp [h27, h27p, h28, h28p, h41, h41p, h39, h40])).symm, G⟩
            | true =>
             try rw [h41] at F
             have h41p : ¬ (p.bv k 1 : Int) = (p.bv k 2) := by simpa using h41
             refine Y.cF F 163 ?_
             refine Y.skip ?_
             refine X.blockN (X.thenN ?_)
             refine Y.lg F [(1, Vp w.heap.size), (3, Vi p.nt), (4, Vi p.nh), (119, .slice (some pd25) p.nb bc), (120, Vi p.nb), (121, Vi ((k : Int) + 1))] (by
              refine Y.pv F (X.binop rfl (F.ev 121 (Vi k)) (X.kc (Vi 1) rfl) (X.addI Try.underlying3 rfl (by omega) (by omega))) fun ac F=>?_
              refine Y.pv F (X.move rfl (F.ev 164 (Vi ((k : Int) + 1)))) fun ac F=>?_
              exact Y.fin F) ?_;clear F ac;intro ac F
             refine ⟨_, ?_, k + 1, rfl, GBBB_, by omega, allN_succ hok (by rw [bond_eq]; simp [h27, h27p, h28, h28p, h41, h41p, h39, h40]), F.sub _⟩
             omega
        | true =>
         try rw [h27] at F
         have h27p : (p.bv k 0 : Int) = 1 := by simpa using h27
         refine Y.cT F 132 ?_
         refine Y.skip ?_
         refine X.thenN ?_
         refine Y.cT F 132 ?_
         refine Y.lit (by kernel_rfl) ?_
         refine Y.pv2 F (X.move rfl (F.ev 13 (.bool (withinB (p.bv k 1) 0 ((p.nt : Int) - 1))))) (fun _ F=>X.move rfl (F.ev 136 (.bool (withinB (p.bv k 1) 0 ((p.nt : Int) - 1))))) ?_;clear F ac;intro ac F
         cases h42 : withinB (p.bv k 1) 0 ((p.nt : Int) - 1) with
         | false =>
          try rw [h42] at F
          refine Y.p5 F 1 137 false fun ac F=>Y.pv2 F (X.pickF rfl (F.ev 137 (.bool false)) (X.kc (.bool false) rfl)) (fun _ F=>X.move rfl (F.ev 143 (.bool false))) fun ac F=>Y.p5 F 8 144 false fun ac F=>Y.pv2 F (X.pickF rfl (F.ev 144 (.bool false)) (X.kc (.bool false) rfl)) (fun _ F=>X.assign rfl (F.ev 150 (.bool false))) ?_;clear F ac;intro ac F
          refine Y.nil ?_
          replace F : Fr ac 201 [(1, Vp w.heap.size), (3, Vi p.nt), (4, Vi p.nh), (13, .bool false), (119, .slice (some pd25) p.nb bc), (120, Vi p.nb), (121, Vi k)] := F.sub _
          refine X.blockN (X.thenN ?_)
          refine Y.sg F [(1, Vp w.heap.size), (3, Vi p.nt), (4, Vi p.nh), (119, .slice (some pd25) p.nb bc), (120, Vi p.nb), (121, Vi k), (163, .bool true)] (Y.pv F (X.move rfl (F.ev 13 (.bool false))) fun ac F=>Y.pv F (X.notB rfl (F.ev 162 (.bool false)) rfl) fun ac F=>Y.fin F) ?_;clear F ac;intro ac F
          refine Y.cT F 163 ?_
          refine Y.sk F 2 (Vi 32) ?_;clear F ac;intro ac F
          refine Y.ret ?_
          refine X.blockR (X.thenR (X.thenR (X.blockR (X.thenR ?_))))
          exact Y.ret0 (v := Vi 32) F (Y.r1 F) ⟨ret_int (chk_b hbig hall1 hall2 hi (by rw [bond_eq]; simp [h27, h27p, h42])).symm, G⟩
         | true =>
          try rw [h42] at F
          refine Y.pg F 1 137 true (X.field rfl (F.ev 12 (Vp w13.heap.size)) (X.fld Try.underlying65 rfl (Try.siz3 _) rfl rfl)) fun ac F=>Y.pg F 1 137 true (X.load rfl (F.ev 138 (.pointer (some ⟨w13.heap.size, 2, none⟩))) (X.ld1 (Try.agg3 _) (hC.at 9 rfl))) fun ac F=>Y.pg F 1 137 true (X.move rfl (F.ev 3 (Vi p.nt))) fun ac F=>Y.pg F 1 137 true (X.binop rfl (F.ev 140 (Vi p.nt)) (X.kc (Vi 1) rfl) (X.subI Try.underlying3 rfl (by omega) (by omega))) ?_;clear F ac;intro ac F
          refine Y.pcall F (X.w1 rfl (F.yl (j := 1) (d := 137) (b := true) rfl (by kernel_rfl))) rfl (X.enter (F := 56) rfl (X.kc (.func (.func 56) #[] #[]) rfl) (X.a3 (F.ev 139 (Vi (p.bv k 2))) (X.kc (Vi 0) rfl) (F.ev 141 (Vi ((p.nt : Int) - 1)))) (enters_of Try.func56 (by kernel_rfl) rfl _)) (within_any (p.bv k 2) 0 ((p.nt : Int) - 1) w26) ?_
          clear F ac
          rintro e w' ⟨rfl, hw_⟩
          obtain rfl : w26 = w' := hw_.symm
          clear hw_
          refine ⟨_, rfl, ?_⟩
          intro ac F
          refine Y.pv2 F (X.pickT rfl (F.ev 137 (.bool true)) (F.ev 142 (.bool (withinB (p.bv k 2) 0 ((p.nt : Int) - 1))))) (fun _ F=>X.move rfl (F.ev 143 (.bool (withinB (p.bv k 2) 0 ((p.nt : Int) - 1))))) ?_;clear F ac;intro ac F
          cases h43 : withinB (p.bv k 2) 0 ((p.nt : Int) - 1) with
          | false =>
           try rw [h43] at F
           refine Y.p5 F 8 144 false fun ac F=>Y.pv2 F (X.pickF rfl (F.ev 144 (.bool false)) (X.kc (.bool false) rfl)) (fun _ F=>X.assign rfl (F.ev 150 (.bool false))) ?_;clear F ac;intro ac F
           refine Y.nil ?_
           replace F : Fr ac 201 [(1, Vp w.heap.size), (3, Vi p.nt), (4, Vi p.nh), (13, .bool false), (119, .slice (some pd25) p.nb bc), (120, Vi p.nb), (121, Vi k)] := F.sub _
           refine X.blockN (X.thenN ?_)
           refine Y.sg F [(1, Vp w.heap.size), (3, Vi p.nt), (4, Vi p.nh), (119, .slice (some pd25) p.nb bc), (120, Vi p.nb), (121, Vi k), (163, .bool true)] (Y.pv F (X.move rfl (F.ev 13 (.bool false))) fun ac F=>Y.pv F (X.notB rfl (F.ev 162 (.bool false)) rfl) fun ac F=>Y.fin F) ?_;clear F ac;intro ac F
           refine Y.cT F 163 ?_
           refine Y.sk F 2 (Vi 32) ?_;clear F ac;intro ac F
           refine Y.ret ?_
           refine X.blockR (X.thenR (X.thenR (X.blockR (X.thenR ?_))))
           exact Y.ret0 (v := Vi 32) F (Y.r1 F) ⟨ret_int (chk_b hbig hall1 hall2 hi (by rw [bond_eq]; simp [h27, h27p, h42, h43])).symm, G⟩
          | true =>
           try rw [h43] at F
           refine Y.pg F 8 144 true (X.field rfl (F.ev 12 (Vp w13.heap.size)) (X.fld Try.underlying65 rfl (Try.siz3 _) rfl rfl)) fun ac F=>Y.pg F 8 144 true (X.load rfl (F.ev 145 (.pointer (some ⟨w13.heap.size, 1, none⟩))) (X.ld1 (Try.agg3 _) (hC.at 8 rfl))) fun ac F=>Y.pg F 8 144 true (X.field rfl (F.ev 12 (Vp w13.heap.size)) (X.fld Try.underlying65 rfl (Try.siz3 _) rfl rfl)) fun ac F=>Y.pg F 8 144 true (X.load rfl (F.ev 147 (.pointer (some ⟨w13.heap.size, 2, none⟩))) (X.ld1 (Try.agg3 _) (hC.at 9 rfl))) fun ac F=>Y.pg F 8 144 true (X.binop rfl (F.ev 146 (Vi (p.bv k 1))) (F.ev 148 (Vi (p.bv k 2))) (X.neqI Try.underlying3 rfl)) fun ac F=>Y.pv2 F (X.pickT rfl (F.ev 144 (.bool true)) (F.ev 149 (.bool ((p.bv k 1 : Int) != (p.bv k 2))))) (fun _ F=>X.assign rfl (F.ev 150 (.bool ((p.bv k 1 : Int) != (p.bv k 2))))) ?_;clear F ac;intro ac F
           refine Y.nil ?_
           replace F : Fr ac 201 [(1, Vp w.heap.size), (3, Vi p.nt), (4, Vi p.nh), (13, .bool ((p.bv k 1 : Int) != (p.bv k 2))), (119, .slice (some pd25) p.nb bc), (120, Vi p.nb), (121, Vi k)] := F.sub _
           refine X.blockN (X.thenN ?_)
           refine Y.sg F [(1, Vp w.heap.size), (3, Vi p.nt), (4, Vi p.nh), (119, .slice (some pd25) p.nb bc), (120, Vi p.nb), (121, Vi k), (163, .bool (!((p.bv k 1 : Int) != (p.bv k 2))))] (Y.pv F (X.move rfl (F.ev 13 (.bool ((p.bv k 1 : Int) != (p.bv k 2))))) fun ac F=>Y.pv F (X.notB rfl (F.ev 162 (.bool ((p.bv k 1 : Int) != (p.bv k 2)))) rfl) fun ac F=>Y.fin F) ?_;clear F ac;intro ac F
           cases h44 : (p.bv k 1 : Int) != (p.bv k 2) with
           | false =>
            try rw [h44] at F
            have h44p : (p.bv k 1 : Int) = (p.bv k 2) := by simpa using h44
            refine Y.cT F 163 ?_
            refine Y.sk F 2 (Vi 32) ?_;clear F ac;intro ac F
            refine Y.ret ?_
            refine X.blockR (X.thenR (X.thenR (X.blockR (X.thenR ?_))))
            exact Y.ret0 (v := Vi 32) F (Y.r1 F) ⟨ret_int (chk_b hbig hall1 hall2 hi (by rw [bond_eq]; simp [h27, h27p, h44, h44p, h42, h43])).symm, G⟩
           | true =>
            try rw [h44] at F
            have h44p : ¬ (p.bv k 1 : Int) = (p.bv k 2) := by simpa using h44
            refine Y.cF F 163 ?_
            refine Y.skip ?_
            refine X.blockN (X.thenN ?_)
            refine Y.lg F [(1, Vp w.heap.size), (3, Vi p.nt), (4, Vi p.nh), (119, .slice (some pd25) p.nb bc), (120, Vi p.nb), (121, Vi ((k : Int) + 1))] (by
             refine Y.pv F (X.binop rfl (F.ev 121 (Vi k)) (X.kc (Vi 1) rfl) (X.addI Try.underlying3 rfl (by omega) (by omega))) fun ac F=>?_
             refine Y.pv F (X.move rfl (F.ev 164 (Vi ((k : Int) + 1)))) fun ac F=>?_
             exact Y.fin F) ?_;clear F ac;intro ac F
            refine ⟨_, ?_, k + 1, rfl, GBBB_, by omega, allN_succ hok (by rw [bond_eq]; simp [h27, h27p, h44, h44p, h42, h43]), F.sub _⟩
            omega
      | true =>
       try rw [h12] at F
       have h12p : ((j : Int) < p.nh) := of_decide_eq_true h12
       have hi : j < p.nh := by omega
       refine Y.cT F 81 ?_
       refine Y.skip ?_
       refine X.thenN ?_
       refine Y.seq ?_
       refine Y.block ?_
       refine Y.sl ?_
       refine Y.pv F (X.move rfl (F.ev 80 (Vi j))) ?_;clear F ac;intro ac F
       obtain ⟨pd45, pe45, -, pc45⟩ := hph.at (j := j) (by omega)
       subst pe45
       replace hC := hC.append (show RCells w11 (Y.cs (pd45.add (j * 6)) [.string (p.hn j), Vi (p.hv j 1), Vi (p.hv j 2), Vi (p.hv j 3), Vi (p.hv j 4), Vi (p.hv j 5)]) from (RCells.cons (pc45 0 (by decide)) (RCells.cons (pc45 1 (by decide)) (RCells.cons (pc45 2 (by decide)) (RCells.cons (pc45 3 (by decide)) (RCells.cons (pc45 4 (by decide)) (RCells.cons (pc45 5 (by decide)) (RCells.nil _))))))))
       clear pc45
       refine Y.pv4 F (X.index rfl (F.ev 78 (.slice (some pd45) p.nh hc)) (F.ev 80 (Vi j)) (X.idx (k := j) Try.underlying23 (Try.siz53 _) (by omega) (by omega) rfl)) (fun _ F=>X.load rfl (F.ev 83 (.pointer (some (pd45.add (j * 6))))) (X.ldN (Try.agg53 _) (Try.siz53 _) (Y.atz (pd45.add (j * 6)) (Y.AtFrom.cons (hC.at 4 rfl) (Y.AtFrom.cons (hC.at 5 rfl) (Y.AtFrom.cons (hC.at 6 rfl) (Y.AtFrom.cons (hC.at 7 rfl) (Y.AtFrom.cons (hC.at 8 rfl) (Y.AtFrom.cons (hC.at 9 rfl) (Y.AtFrom.nil _ _ _)))))))))) (fun _ F=>Y.al rfl (Try.new53 _)) (fun _ F=>X.assign rfl (F.ev 82 (Vi j))) fun ac F=>Y.punit F (X.w0 rfl) rfl (X.store rfl (F.ev 9 (Vp w11.heap.size)) (F.ev 84 (.agg #[.string (p.hn j), Vi (p.hv j 1), Vi (p.hv j 2), Vi (p.hv j 3), Vi (p.hv j 4), Vi (p.hv j 5)])) (Y.stNew [.string (p.hn j), Vi (p.hv j 1), Vi (p.hv j 2), Vi (p.hv j 3), Vi (p.hv j 4), Vi (p.hv j 5)] [(.string ByteArray.empty), Vi 0, Vi 0, Vi 0, Vi 0, Vi 0] (Try.siz53 _) rfl rfl)) ?_;clear F ac;intro ac F
       obtain ⟨w46, hw_, g, hb, hbl, hC2⟩ := Y.bxd hC #[.string (p.hn j), Vi (p.hv j 1), Vi (p.hv j 2), Vi (p.hv j 3), Vi (p.hv j 4), Vi (p.hv j 5)] 53;rw [hw_];clear hw_
       replace G := G.trans g
       replace hC := hC2
       clear hC2
       replace GB_ := GB_.trans g
       replace GBB_ := GBB_.trans g
       replace hpt := hpt.gr g
       replace hph := hph.gr g
       replace hpb := hpb.gr g
       replace hpl := hpl.gr g
       clear g hb hbl
       refine Y.nt F [(1, Vp w.heap.size), (3, Vi p.nt), (4, Vi p.nh), (8, Vi j), (9, Vp w11.heap.size), (78, .slice (some pd45) p.nh hc), (79, Vi p.nh), (80, Vi j)] ?_;clear F ac;intro ac F
       refine Y.sl ?_
       refine Y.pv4 F (X.field rfl (F.ev 1 (Vp w.heap.size)) (X.fld Try.underlying27 rfl (Try.siz23 _) rfl rfl)) (fun _ F=>X.load rfl (F.ev 85 (.pointer (some ⟨w.heap.size, 1, none⟩))) (X.ld1 (Try.agg23 _) (hC.at 1 rfl))) (fun _ F=>X.move rfl (F.ev 8 (Vi j))) (fun _ F=>Y.slH (k := j) rfl (F.ev 86 (.slice (some pd45) p.nh hc)) (F.ev 87 (Vi j)) Try.underlying23 (Try.siz53 _) (by omega) (by omega)) fun ac F=>Y.pv F (Y.fnc rfl (Y.m1 (F.ev 9 (Vp w11.heap.size)))) fun ac F=>Y.pc F 57 (X.a2 (F.ev 88 (.slice (some pd45) j hc)) (F.ev 89 (.func (.func 58) #[] #[Vp w11.heap.size]))) Try.func57 (con57_any p (some pd45) j hc w11.heap.size (p.hn j) w46 (hph.take (by omega)) (hC.at 10 rfl)) ?_
       clear F ac
       rintro e w47 ⟨rfl, g⟩
       refine ⟨_, rfl, ?_⟩
       intro ac F
       replace G := G.trans g
       replace hC := hC.gr g
       replace GB_ := GB_.trans g
       replace GBB_ := GBB_.trans g
       replace hpt := hpt.gr g
       replace hph := hph.gr g
       replace hpb := hpb.gr g
       replace hpl := hpl.gr g
       clear g
       refine Y.pv F (X.assign rfl (F.ev 90 (.bool (twiceB p.hn j)))) ?_;clear F ac;intro ac F
       refine Y.nt F [(1, Vp w.heap.size), (3, Vi p.nt), (4, Vi p.nh), (9, Vp w11.heap.size), (10, .bool (twiceB p.hn j)), (78, .slice (some pd45) p.nh hc), (79, Vi p.nh), (80, Vi j)] ?_;clear F ac;intro ac F
       refine Y.sl ?_
       refine Y.pv2 F (X.field rfl (F.ev 9 (Vp w11.heap.size)) (X.fld Try.underlying53 rfl (Try.siz9 _) rfl rfl)) (fun _ F=>X.load rfl (F.ev 91 (Vp w11.heap.size)) (X.ld1 (Try.agg9 _) (hC.at 10 rfl))) fun ac F=>Y.pc F 54 (X.a1 (F.ev 92 (.string (p.hn j)))) Try.func54 (named_any (p.hn j) w47 (hP.s2 j (by omega))) ?_
       clear F ac
       rintro e w' ⟨rfl, hw_⟩
       obtain rfl : w47 = w' := hw_.symm
       clear hw_
       refine ⟨_, rfl, ?_⟩
       intro ac F
       refine Y.pv2 F (X.notB rfl (F.ev 93 (.bool (nameB (p.hn j)))) rfl) (fun _ F=>X.move rfl (F.ev 94 (.bool (!(nameB (p.hn j)))))) ?_;clear F ac;intro ac F
       cases h48 : nameB (p.hn j) with
       | false =>
        try rw [h48] at F
        refine Y.ps F 4 95 true fun ac F=>Y.pv2 F (X.pickT rfl (F.ev 95 (.bool true)) (X.kc (.bool true) rfl)) (fun _ F=>X.move rfl (F.ev 97 (.bool true))) fun ac F=>Y.p5 F 7 98 true fun ac F=>Y.p5 F 7 98 true fun ac F=>Y.ps F 7 98 true fun ac F=>Y.pv2 F (X.pickT rfl (F.ev 98 (.bool true)) (X.kc (.bool true) rfl)) (fun _ F=>X.move rfl (F.ev 110 (.bool true))) fun ac F=>Y.p3 F 20 111 true fun ac F=>Y.ps F 20 111 true fun ac F=>Y.pv F (X.pickT rfl (F.ev 111 (.bool true)) (X.kc (.bool true) rfl)) ?_;clear F ac;intro ac F
        refine Y.nt F [(1, Vp w.heap.size), (3, Vi p.nt), (4, Vi p.nh), (78, .slice (some pd45) p.nh hc), (79, Vi p.nh), (80, Vi j), (116, .bool true)] ?_;clear F ac;intro ac F
        refine Y.cT F 116 ?_
        refine Y.sk F 2 (Vi 31) ?_;clear F ac;intro ac F
        refine Y.ret ?_
        refine X.blockR (X.thenR (X.thenR (X.blockR (X.thenR ?_))))
        exact Y.ret0 (v := Vi 31) F (Y.r1 F) ⟨ret_int (chk_h hbig hall1 hi (by rw [host_eq]; simp [h48])).symm, G⟩
       | true =>
        try rw [h48] at F
        refine Y.pg F 4 95 false (X.move rfl (F.ev 10 (.bool (twiceB p.hn j)))) fun ac F=>Y.pv2 F (X.pickF rfl (F.ev 95 (.bool false)) (F.ev 96 (.bool (twiceB p.hn j)))) (fun _ F=>X.move rfl (F.ev 97 (.bool (twiceB p.hn j)))) ?_;clear F ac;intro ac F
        cases h49 : twiceB p.hn j with
        | false =>
         try rw [h49] at F
         refine Y.pg F 7 98 false (X.field rfl (F.ev 9 (Vp w11.heap.size)) (X.fld Try.underlying53 rfl (Try.siz3 _) rfl rfl)) fun ac F=>Y.pg F 7 98 false (X.load rfl (F.ev 99 (.pointer (some ⟨w11.heap.size, 1, none⟩))) (X.ld1 (Try.agg3 _) (hC.at 11 rfl))) fun ac F=>Y.pg F 7 98 false (X.field rfl (F.ev 9 (Vp w11.heap.size)) (X.fld Try.underlying53 rfl (Try.siz3 _) rfl rfl)) fun ac F=>Y.pg F 7 98 false (X.load rfl (F.ev 101 (.pointer (some ⟨w11.heap.size, 2, none⟩))) (X.ld1 (Try.agg3 _) (hC.at 12 rfl))) fun ac F=>Y.pg F 7 98 false (X.field rfl (F.ev 9 (Vp w11.heap.size)) (X.fld Try.underlying53 rfl (Try.siz3 _) rfl rfl)) fun ac F=>Y.pg F 7 98 false (X.load rfl (F.ev 103 (.pointer (some ⟨w11.heap.size, 4, none⟩))) (X.ld1 (Try.agg3 _) (hC.at 14 rfl))) fun ac F=>Y.pg F 7 98 false (X.field rfl (F.ev 9 (Vp w11.heap.size)) (X.fld Try.underlying53 rfl (Try.siz3 _) rfl rfl)) fun ac F=>Y.pg F 7 98 false (X.load rfl (F.ev 105 (.pointer (some ⟨w11.heap.size, 5, none⟩))) (X.ld1 (Try.agg3 _) (hC.at 15 rfl))) fun ac F=>Y.pg F 7 98 false (X.bs rfl (X.b4 (F.ev 100 (Vi (p.hv j 1))) (F.ev 102 (Vi (p.hv j 2))) (F.ev 104 (Vi (p.hv j 4))) (F.ev 106 (Vi (p.hv j 5)))) (Try.bs34_4 (p.hv j 1) (p.hv j 2) (p.hv j 4) (p.hv j 5) _)) ?_;clear F ac;intro ac F
         obtain ⟨w50, hw_, g, hb, hbl, hC2⟩ := Y.bxd hC #[Vi (p.hv j 1), Vi (p.hv j 2), Vi (p.hv j 4), Vi (p.hv j 5)] 3;rw [hw_];clear hw_
         replace G := G.trans g
         replace hC := hC2
         clear hC2
         replace GB_ := GB_.trans g
         replace GBB_ := GBB_.trans g
         replace hpt := hpt.gr g
         replace hph := hph.gr g
         replace hpb := hpb.gr g
         replace hpl := hpl.gr g
         clear g hb hbl
         refine Y.pcall F (X.w1 rfl (F.yl (j := 7) (d := 98) (b := false) rfl (by kernel_rfl))) rfl (X.enter (F := 55) rfl (X.kc (.func (.func 55) #[] #[]) rfl) (X.a1 (F.ev 107 (.slice (some ⟨w47.heap.size, 0, none⟩) 4 4))) (enters_of Try.func55 (by kernel_rfl) rfl _)) (by have hq := costs_any (some ⟨w47.heap.size, 0, none⟩) 4 4 [p.hv j 1, p.hv j 2, p.hv j 4, p.hv j 5] w50 (ints_4 (hC.at 16 rfl) (hC.at 17 rfl) (hC.at 18 rfl) (hC.at 19 rfl)); rw [all_4] at hq; exact hq) ?_
         clear F ac
         rintro e w51 ⟨rfl, g⟩
         refine ⟨_, rfl, ?_⟩
         intro ac F
         replace G := G.trans g
         replace hC := hC.gr g
         replace GB_ := GB_.trans g
         replace GBB_ := GBB_.trans g
         replace hpt := hpt.gr g
         replace hph := hph.gr g
         replace hpb := hpb.gr g
         replace hpl := hpl.gr g
         clear g
         refine Y.pg F 7 98 false (X.notB rfl (F.ev 108 (.bool (amtB (p.hv j 1) && amtB (p.hv j 2) && amtB (p.hv j 4) && amtB (p.hv j 5)))) rfl) fun ac F=>Y.pv2 F (X.pickF rfl (F.ev 98 (.bool false)) (F.ev 109 (.bool (!(amtB (p.hv j 1) && amtB (p.hv j 2) && amtB (p.hv j 4) && amtB (p.hv j 5)))))) (fun _ F=>X.move rfl (F.ev 110 (.bool (!(amtB (p.hv j 1) && amtB (p.hv j 2) && amtB (p.hv j 4) && amtB (p.hv j 5)))))) ?_;clear F ac;intro ac F
         cases h52 : (amtB (p.hv j 1) && amtB (p.hv j 2) && amtB (p.hv j 4) && amtB (p.hv j 5)) with
         | false =>
          try rw [h52] at F
          refine Y.p3 F 20 111 true fun ac F=>Y.ps F 20 111 true fun ac F=>Y.pv F (X.pickT rfl (F.ev 111 (.bool true)) (X.kc (.bool true) rfl)) ?_;clear F ac;intro ac F
          refine Y.nt F [(1, Vp w.heap.size), (3, Vi p.nt), (4, Vi p.nh), (78, .slice (some pd45) p.nh hc), (79, Vi p.nh), (80, Vi j), (116, .bool true)] ?_;clear F ac;intro ac F
          refine Y.cT F 116 ?_
          refine Y.sk F 2 (Vi 31) ?_;clear F ac;intro ac F
          refine Y.ret ?_
          refine X.blockR (X.thenR (X.thenR (X.blockR (X.thenR ?_))))
          exact Y.ret0 (v := Vi 31) F (Y.r1 F) ⟨ret_int (chk_h hbig hall1 hi (by rw [host_eq]; simp [h52, h48, h49])).symm, G⟩
         | true =>
          try rw [h52] at F
          refine Y.pg F 20 111 false (X.field rfl (F.ev 9 (Vp w11.heap.size)) (X.fld Try.underlying53 rfl (Try.siz3 _) rfl rfl)) fun ac F=>Y.pg F 20 111 false (X.load rfl (F.ev 112 (.pointer (some ⟨w11.heap.size, 3, none⟩))) (X.ld1 (Try.agg3 _) (hC.at 13 rfl))) ?_;clear F ac;intro ac F
          refine Y.pcall F (X.w1 rfl (F.yl (j := 20) (d := 111) (b := false) rfl (by kernel_rfl))) rfl (X.enter (F := 56) rfl (X.kc (.func (.func 56) #[] #[]) rfl) (X.a3 (F.ev 113 (Vi (p.hv j 3))) (X.kc (Vi 0) rfl) (X.kc (Vi 4) rfl)) (enters_of Try.func56 (by kernel_rfl) rfl _)) (within_any (p.hv j 3) 0 4 w51) ?_
          clear F ac
          rintro e w' ⟨rfl, hw_⟩
          obtain rfl : w51 = w' := hw_.symm
          clear hw_
          refine ⟨_, rfl, ?_⟩
          intro ac F
          refine Y.pg F 20 111 false (X.notB rfl (F.ev 114 (.bool (withinB (p.hv j 3) 0 4))) rfl) fun ac F=>Y.pv F (X.pickF rfl (F.ev 111 (.bool false)) (F.ev 115 (.bool (!(withinB (p.hv j 3) 0 4))))) ?_;clear F ac;intro ac F
          refine Y.nt F [(1, Vp w.heap.size), (3, Vi p.nt), (4, Vi p.nh), (78, .slice (some pd45) p.nh hc), (79, Vi p.nh), (80, Vi j), (116, .bool (!(withinB (p.hv j 3) 0 4)))] ?_;clear F ac;intro ac F
          cases h53 : withinB (p.hv j 3) 0 4 with
          | false =>
           try rw [h53] at F
           refine Y.cT F 116 ?_
           refine Y.sk F 2 (Vi 31) ?_;clear F ac;intro ac F
           refine Y.ret ?_
           refine X.blockR (X.thenR (X.thenR (X.blockR (X.thenR ?_))))
           exact Y.ret0 (v := Vi 31) F (Y.r1 F) ⟨ret_int (chk_h hbig hall1 hi (by rw [host_eq]; simp [h52, h48, h49, h53])).symm, G⟩
          | true =>
           try rw [h53] at F
           refine Y.cF F 116 ?_
           refine Y.skip ?_
           refine X.blockN (X.thenN ?_)
           refine Y.lg F [(1, Vp w.heap.size), (3, Vi p.nt), (4, Vi p.nh), (78, .slice (some pd45) p.nh hc), (79, Vi p.nh), (80, Vi ((j : Int) + 1))] (by
            refine Y.pv F (X.binop rfl (F.ev 80 (Vi j)) (X.kc (Vi 1) rfl) (X.addI Try.underlying3 rfl (by omega) (by omega))) fun ac F=>?_
            refine Y.pv F (X.move rfl (F.ev 117 (Vi ((j : Int) + 1)))) fun ac F=>?_
            exact Y.fin F) ?_;clear F ac;intro ac F
           refine ⟨_, ?_, j + 1, rfl, GBB_, by omega, allN_succ hok (by rw [host_eq]; simp [h52, h48, h49, h53]), F.sub _⟩
           omega
        | true =>
         try rw [h49] at F
         refine Y.p5 F 7 98 true fun ac F=>Y.p5 F 7 98 true fun ac F=>Y.ps F 7 98 true fun ac F=>Y.pv2 F (X.pickT rfl (F.ev 98 (.bool true)) (X.kc (.bool true) rfl)) (fun _ F=>X.move rfl (F.ev 110 (.bool true))) fun ac F=>Y.p3 F 20 111 true fun ac F=>Y.ps F 20 111 true fun ac F=>Y.pv F (X.pickT rfl (F.ev 111 (.bool true)) (X.kc (.bool true) rfl)) ?_;clear F ac;intro ac F
         refine Y.nt F [(1, Vp w.heap.size), (3, Vi p.nt), (4, Vi p.nh), (78, .slice (some pd45) p.nh hc), (79, Vi p.nh), (80, Vi j), (116, .bool true)] ?_;clear F ac;intro ac F
         refine Y.cT F 116 ?_
         refine Y.sk F 2 (Vi 31) ?_;clear F ac;intro ac F
         refine Y.ret ?_
         refine X.blockR (X.thenR (X.thenR (X.blockR (X.thenR ?_))))
         exact Y.ret0 (v := Vi 31) F (Y.r1 F) ⟨ret_int (chk_h hbig hall1 hi (by rw [host_eq]; simp [h48, h49])).symm, G⟩
     | true =>
      try rw [h10] at F
      have h10p : ((i : Int) < p.nt) := of_decide_eq_true h10
      have hi : i < p.nt := by omega
      refine Y.cT F 44 ?_
      refine Y.skip ?_
      refine X.thenN ?_
      refine Y.seq ?_
      refine Y.block ?_
      refine Y.sl ?_
      refine Y.pv F (X.move rfl (F.ev 43 (Vi i))) ?_;clear F ac;intro ac F
      obtain ⟨pd54, pe54, -, pc54⟩ := hpt.at (j := i) (by omega)
      subst pe54
      replace hC := hC.append (show RCells w9 (Y.cs (pd54.add (i * 4)) [.string (p.tn i), Vi (p.tv i 1), Vi (p.tv i 2), Vi (p.tv i 3)]) from (RCells.cons (pc54 0 (by decide)) (RCells.cons (pc54 1 (by decide)) (RCells.cons (pc54 2 (by decide)) (RCells.cons (pc54 3 (by decide)) (RCells.nil _))))))
      clear pc54
      refine Y.pv4 F (X.index rfl (F.ev 41 (.slice (some pd54) p.nt tc)) (F.ev 43 (Vi i)) (X.idx (k := i) Try.underlying22 (Try.siz74 _) (by omega) (by omega) rfl)) (fun _ F=>X.load rfl (F.ev 46 (.pointer (some (pd54.add (i * 4))))) (X.ldN (Try.agg74 _) (Try.siz74 _) (Y.atz (pd54.add (i * 4)) (Y.AtFrom.cons (hC.at 4 rfl) (Y.AtFrom.cons (hC.at 5 rfl) (Y.AtFrom.cons (hC.at 6 rfl) (Y.AtFrom.cons (hC.at 7 rfl) (Y.AtFrom.nil _ _ _)))))))) (fun _ F=>Y.al rfl (Try.new74 _)) (fun _ F=>X.assign rfl (F.ev 45 (Vi i))) fun ac F=>Y.punit F (X.w0 rfl) rfl (X.store rfl (F.ev 6 (Vp w9.heap.size)) (F.ev 47 (.agg #[.string (p.tn i), Vi (p.tv i 1), Vi (p.tv i 2), Vi (p.tv i 3)])) (Y.stNew [.string (p.tn i), Vi (p.tv i 1), Vi (p.tv i 2), Vi (p.tv i 3)] [(.string ByteArray.empty), Vi 0, Vi 0, Vi 0] (Try.siz74 _) rfl rfl)) ?_;clear F ac;intro ac F
      obtain ⟨w55, hw_, g, hb, hbl, hC2⟩ := Y.bxd hC #[.string (p.tn i), Vi (p.tv i 1), Vi (p.tv i 2), Vi (p.tv i 3)] 74;rw [hw_];clear hw_
      replace G := G.trans g
      replace hC := hC2
      clear hC2
      replace GB_ := GB_.trans g
      replace hpt := hpt.gr g
      replace hph := hph.gr g
      replace hpb := hpb.gr g
      replace hpl := hpl.gr g
      clear g hb hbl
      refine Y.nt F [(1, Vp w.heap.size), (3, Vi p.nt), (4, Vi p.nh), (5, Vi i), (6, Vp w9.heap.size), (41, .slice (some pd54) p.nt tc), (42, Vi p.nt), (43, Vi i)] ?_;clear F ac;intro ac F
      refine Y.sl ?_
      refine Y.pv4 F (X.field rfl (F.ev 1 (Vp w.heap.size)) (X.fld Try.underlying27 rfl (Try.siz22 _) rfl rfl)) (fun _ F=>X.load rfl (F.ev 48 (Vp w.heap.size)) (X.ld1 (Try.agg22 _) (hC.at 0 rfl))) (fun _ F=>X.move rfl (F.ev 5 (Vi i))) (fun _ F=>Y.slH (k := i) rfl (F.ev 49 (.slice (some pd54) p.nt tc)) (F.ev 50 (Vi i)) Try.underlying22 (Try.siz74 _) (by omega) (by omega)) fun ac F=>Y.pv F (Y.fnc rfl (Y.m1 (F.ev 6 (Vp w9.heap.size)))) fun ac F=>Y.pc F 52 (X.a2 (F.ev 51 (.slice (some pd54) i tc)) (F.ev 52 (.func (.func 53) #[] #[Vp w9.heap.size]))) Try.func52 (con52_any p (some pd54) i tc w9.heap.size (p.tn i) w55 (hpt.take (by omega)) (hC.at 8 rfl)) ?_
      clear F ac
      rintro e w56 ⟨rfl, g⟩
      refine ⟨_, rfl, ?_⟩
      intro ac F
      replace G := G.trans g
      replace hC := hC.gr g
      replace GB_ := GB_.trans g
      replace hpt := hpt.gr g
      replace hph := hph.gr g
      replace hpb := hpb.gr g
      replace hpl := hpl.gr g
      clear g
      refine Y.pv F (X.assign rfl (F.ev 53 (.bool (twiceB p.tn i)))) ?_;clear F ac;intro ac F
      refine Y.nt F [(1, Vp w.heap.size), (3, Vi p.nt), (4, Vi p.nh), (6, Vp w9.heap.size), (7, .bool (twiceB p.tn i)), (41, .slice (some pd54) p.nt tc), (42, Vi p.nt), (43, Vi i)] ?_;clear F ac;intro ac F
      refine Y.sl ?_
      refine Y.pv2 F (X.field rfl (F.ev 6 (Vp w9.heap.size)) (X.fld Try.underlying74 rfl (Try.siz9 _) rfl rfl)) (fun _ F=>X.load rfl (F.ev 54 (Vp w9.heap.size)) (X.ld1 (Try.agg9 _) (hC.at 8 rfl))) fun ac F=>Y.pc F 54 (X.a1 (F.ev 55 (.string (p.tn i)))) Try.func54 (named_any (p.tn i) w56 (hP.s1 i (by omega))) ?_
      clear F ac
      rintro e w' ⟨rfl, hw_⟩
      obtain rfl : w56 = w' := hw_.symm
      clear hw_
      refine ⟨_, rfl, ?_⟩
      intro ac F
      refine Y.pv2 F (X.notB rfl (F.ev 56 (.bool (nameB (p.tn i)))) rfl) (fun _ F=>X.move rfl (F.ev 57 (.bool (!(nameB (p.tn i)))))) ?_;clear F ac;intro ac F
      cases h57 : nameB (p.tn i) with
      | false =>
       try rw [h57] at F
       refine Y.ps F 4 58 true fun ac F=>Y.pv2 F (X.pickT rfl (F.ev 58 (.bool true)) (X.kc (.bool true) rfl)) (fun _ F=>X.move rfl (F.ev 60 (.bool true))) fun ac F=>Y.p5 F 7 61 true fun ac F=>Y.p2 F 7 61 true fun ac F=>Y.pv2 F (X.pickT rfl (F.ev 61 (.bool true)) (X.kc (.bool true) rfl)) (fun _ F=>X.move rfl (F.ev 69 (.bool true))) fun ac F=>Y.p3 F 16 70 true fun ac F=>Y.ps F 16 70 true fun ac F=>Y.pv F (X.pickT rfl (F.ev 70 (.bool true)) (X.kc (.bool true) rfl)) ?_;clear F ac;intro ac F
       refine Y.nt F [(1, Vp w.heap.size), (3, Vi p.nt), (4, Vi p.nh), (41, .slice (some pd54) p.nt tc), (42, Vi p.nt), (43, Vi i), (75, .bool true)] ?_;clear F ac;intro ac F
       refine Y.cT F 75 ?_
       refine Y.sk F 2 (Vi 30) ?_;clear F ac;intro ac F
       refine Y.ret ?_
       refine X.blockR (X.thenR (X.thenR (X.blockR (X.thenR ?_))))
       exact Y.ret0 (v := Vi 30) F (Y.r1 F) ⟨ret_int (chk_t hbig hi (by rw [task_eq]; simp [h57])).symm, G⟩
      | true =>
       try rw [h57] at F
       refine Y.pg F 4 58 false (X.move rfl (F.ev 7 (.bool (twiceB p.tn i)))) fun ac F=>Y.pv2 F (X.pickF rfl (F.ev 58 (.bool false)) (F.ev 59 (.bool (twiceB p.tn i)))) (fun _ F=>X.move rfl (F.ev 60 (.bool (twiceB p.tn i)))) ?_;clear F ac;intro ac F
       cases h58 : twiceB p.tn i with
       | false =>
        try rw [h58] at F
        refine Y.pg F 7 61 false (X.field rfl (F.ev 6 (Vp w9.heap.size)) (X.fld Try.underlying74 rfl (Try.siz3 _) rfl rfl)) fun ac F=>Y.pg F 7 61 false (X.load rfl (F.ev 62 (.pointer (some ⟨w9.heap.size, 1, none⟩))) (X.ld1 (Try.agg3 _) (hC.at 9 rfl))) fun ac F=>Y.pg F 7 61 false (X.field rfl (F.ev 6 (Vp w9.heap.size)) (X.fld Try.underlying74 rfl (Try.siz3 _) rfl rfl)) fun ac F=>Y.pg F 7 61 false (X.load rfl (F.ev 64 (.pointer (some ⟨w9.heap.size, 2, none⟩))) (X.ld1 (Try.agg3 _) (hC.at 10 rfl))) fun ac F=>Y.pg F 7 61 false (X.bs rfl (X.b2 (F.ev 63 (Vi (p.tv i 1))) (F.ev 65 (Vi (p.tv i 2)))) (Try.bs34_2 (p.tv i 1) (p.tv i 2) _)) ?_;clear F ac;intro ac F
        obtain ⟨w59, hw_, g, hb, hbl, hC2⟩ := Y.bxd hC #[Vi (p.tv i 1), Vi (p.tv i 2)] 3;rw [hw_];clear hw_
        replace G := G.trans g
        replace hC := hC2
        clear hC2
        replace GB_ := GB_.trans g
        replace hpt := hpt.gr g
        replace hph := hph.gr g
        replace hpb := hpb.gr g
        replace hpl := hpl.gr g
        clear g hb hbl
        refine Y.pcall F (X.w1 rfl (F.yl (j := 7) (d := 61) (b := false) rfl (by kernel_rfl))) rfl (X.enter (F := 55) rfl (X.kc (.func (.func 55) #[] #[]) rfl) (X.a1 (F.ev 66 (.slice (some ⟨w56.heap.size, 0, none⟩) 2 2))) (enters_of Try.func55 (by kernel_rfl) rfl _)) (by have hq := costs_any (some ⟨w56.heap.size, 0, none⟩) 2 2 [p.tv i 1, p.tv i 2] w59 (ints_2 (hC.at 12 rfl) (hC.at 13 rfl)); rw [all_2] at hq; exact hq) ?_
        clear F ac
        rintro e w60 ⟨rfl, g⟩
        refine ⟨_, rfl, ?_⟩
        intro ac F
        replace G := G.trans g
        replace hC := hC.gr g
        replace GB_ := GB_.trans g
        replace hpt := hpt.gr g
        replace hph := hph.gr g
        replace hpb := hpb.gr g
        replace hpl := hpl.gr g
        clear g
        refine Y.pg F 7 61 false (X.notB rfl (F.ev 67 (.bool (amtB (p.tv i 1) && amtB (p.tv i 2)))) rfl) fun ac F=>Y.pv2 F (X.pickF rfl (F.ev 61 (.bool false)) (F.ev 68 (.bool (!(amtB (p.tv i 1) && amtB (p.tv i 2)))))) (fun _ F=>X.move rfl (F.ev 69 (.bool (!(amtB (p.tv i 1) && amtB (p.tv i 2)))))) ?_;clear F ac;intro ac F
        cases h61 : (amtB (p.tv i 1) && amtB (p.tv i 2)) with
        | false =>
         try rw [h61] at F
         refine Y.p3 F 16 70 true fun ac F=>Y.ps F 16 70 true fun ac F=>Y.pv F (X.pickT rfl (F.ev 70 (.bool true)) (X.kc (.bool true) rfl)) ?_;clear F ac;intro ac F
         refine Y.nt F [(1, Vp w.heap.size), (3, Vi p.nt), (4, Vi p.nh), (41, .slice (some pd54) p.nt tc), (42, Vi p.nt), (43, Vi i), (75, .bool true)] ?_;clear F ac;intro ac F
         refine Y.cT F 75 ?_
         refine Y.sk F 2 (Vi 30) ?_;clear F ac;intro ac F
         refine Y.ret ?_
         refine X.blockR (X.thenR (X.thenR (X.blockR (X.thenR ?_))))
         exact Y.ret0 (v := Vi 30) F (Y.r1 F) ⟨ret_int (chk_t hbig hi (by rw [task_eq]; simp [h61, h57, h58])).symm, G⟩
        | true =>
         try rw [h61] at F
         refine Y.pg F 16 70 false (X.field rfl (F.ev 6 (Vp w9.heap.size)) (X.fld Try.underlying74 rfl (Try.siz3 _) rfl rfl)) fun ac F=>Y.pg F 16 70 false (X.load rfl (F.ev 71 (.pointer (some ⟨w9.heap.size, 3, none⟩))) (X.ld1 (Try.agg3 _) (hC.at 11 rfl))) ?_;clear F ac;intro ac F
         refine Y.pcall F (X.w1 rfl (F.yl (j := 16) (d := 70) (b := false) rfl (by kernel_rfl))) rfl (X.enter (F := 56) rfl (X.kc (.func (.func 56) #[] #[]) rfl) (X.a3 (F.ev 72 (Vi (p.tv i 3))) (X.kc (Vi 0) rfl) (X.kc (Vi 4) rfl)) (enters_of Try.func56 (by kernel_rfl) rfl _)) (within_any (p.tv i 3) 0 4 w60) ?_
         clear F ac
         rintro e w' ⟨rfl, hw_⟩
         obtain rfl : w60 = w' := hw_.symm
         clear hw_
         refine ⟨_, rfl, ?_⟩
         intro ac F
         refine Y.pg F 16 70 false (X.notB rfl (F.ev 73 (.bool (withinB (p.tv i 3) 0 4))) rfl) fun ac F=>Y.pv F (X.pickF rfl (F.ev 70 (.bool false)) (F.ev 74 (.bool (!(withinB (p.tv i 3) 0 4))))) ?_;clear F ac;intro ac F
         refine Y.nt F [(1, Vp w.heap.size), (3, Vi p.nt), (4, Vi p.nh), (41, .slice (some pd54) p.nt tc), (42, Vi p.nt), (43, Vi i), (75, .bool (!(withinB (p.tv i 3) 0 4)))] ?_;clear F ac;intro ac F
         cases h62 : withinB (p.tv i 3) 0 4 with
         | false =>
          try rw [h62] at F
          refine Y.cT F 75 ?_
          refine Y.sk F 2 (Vi 30) ?_;clear F ac;intro ac F
          refine Y.ret ?_
          refine X.blockR (X.thenR (X.thenR (X.blockR (X.thenR ?_))))
          exact Y.ret0 (v := Vi 30) F (Y.r1 F) ⟨ret_int (chk_t hbig hi (by rw [task_eq]; simp [h61, h57, h58, h62])).symm, G⟩
         | true =>
          try rw [h62] at F
          refine Y.cF F 75 ?_
          refine Y.skip ?_
          refine X.blockN (X.thenN ?_)
          refine Y.lg F [(1, Vp w.heap.size), (3, Vi p.nt), (4, Vi p.nh), (41, .slice (some pd54) p.nt tc), (42, Vi p.nt), (43, Vi ((i : Int) + 1))] (by
           refine Y.pv F (X.binop rfl (F.ev 43 (Vi i)) (X.kc (Vi 1) rfl) (X.addI Try.underlying3 rfl (by omega) (by omega))) fun ac F=>?_
           refine Y.pv F (X.move rfl (F.ev 76 (Vi ((i : Int) + 1)))) fun ac F=>?_
           exact Y.fin F) ?_;clear F ac;intro ac F
          refine ⟨_, ?_, i + 1, rfl, GB_, by omega, allN_succ hok (by rw [task_eq]; simp [h61, h57, h58, h62]), F.sub _⟩
          omega
       | true =>
        try rw [h58] at F
        refine Y.p5 F 7 61 true fun ac F=>Y.p2 F 7 61 true fun ac F=>Y.pv2 F (X.pickT rfl (F.ev 61 (.bool true)) (X.kc (.bool true) rfl)) (fun _ F=>X.move rfl (F.ev 69 (.bool true))) fun ac F=>Y.p3 F 16 70 true fun ac F=>Y.ps F 16 70 true fun ac F=>Y.pv F (X.pickT rfl (F.ev 70 (.bool true)) (X.kc (.bool true) rfl)) ?_;clear F ac;intro ac F
        refine Y.nt F [(1, Vp w.heap.size), (3, Vi p.nt), (4, Vi p.nh), (41, .slice (some pd54) p.nt tc), (42, Vi p.nt), (43, Vi i), (75, .bool true)] ?_;clear F ac;intro ac F
        refine Y.cT F 75 ?_
        refine Y.sk F 2 (Vi 30) ?_;clear F ac;intro ac F
        refine Y.ret ?_
        refine X.blockR (X.thenR (X.thenR (X.blockR (X.thenR ?_))))
        exact Y.ret0 (v := Vi 30) F (Y.r1 F) ⟨ret_int (chk_t hbig hi (by rw [task_eq]; simp [h57, h58])).symm, G⟩
    | true =>
     try rw [h8] at F
     have h8p : ((30 : Int) < p.nl) := of_decide_eq_true h8
     refine Y.cT F 39 ?_
     refine Y.sk F 2 (Vi 2) ?_;clear F ac;intro ac F
     refine Y.ret ?_
     refine X.thenR ?_
     exact Y.ret0 (v := Vi 2) F (Y.r1 F) ⟨ret_int (chk_big (by omega)).symm, G⟩
   | true =>
    try rw [h7] at F
    have h7p : ((30 : Int) < p.nb) := of_decide_eq_true h7
    refine Y.p3 F 12 34 true fun ac F=>Y.ps F 12 34 true fun ac F=>Y.pv F (X.pickT rfl (F.ev 34 (.bool true)) (X.kc (.bool true) rfl)) ?_;clear F ac;intro ac F
    refine Y.nt F [(1, Vp w.heap.size), (3, Vi p.nt), (4, Vi p.nh), (39, .bool true)] ?_;clear F ac;intro ac F
    refine Y.cT F 39 ?_
    refine Y.sk F 2 (Vi 2) ?_;clear F ac;intro ac F
    refine Y.ret ?_
    refine X.thenR ?_
    exact Y.ret0 (v := Vi 2) F (Y.r1 F) ⟨ret_int (chk_big (by omega)).symm, G⟩
  | true =>
   try rw [h6] at F
   have h6p : ((6 : Int) < p.nh) := of_decide_eq_true h6
   refine Y.p3 F 6 28 true fun ac F=>Y.ps F 6 28 true fun ac F=>Y.pv2 F (X.pickT rfl (F.ev 28 (.bool true)) (X.kc (.bool true) rfl)) (fun _ F=>X.move rfl (F.ev 33 (.bool true))) fun ac F=>Y.p3 F 12 34 true fun ac F=>Y.ps F 12 34 true fun ac F=>Y.pv F (X.pickT rfl (F.ev 34 (.bool true)) (X.kc (.bool true) rfl)) ?_;clear F ac;intro ac F
   refine Y.nt F [(1, Vp w.heap.size), (3, Vi p.nt), (4, Vi p.nh), (39, .bool true)] ?_;clear F ac;intro ac F
   refine Y.cT F 39 ?_
   refine Y.sk F 2 (Vi 2) ?_;clear F ac;intro ac F
   refine Y.ret ?_
   refine X.thenR ?_
   exact Y.ret0 (v := Vi 2) F (Y.r1 F) ⟨ret_int (chk_big (by omega)).symm, G⟩
 | true =>
  try rw [h5] at F
  have h5p : ((10 : Int) < p.nt) := of_decide_eq_true h5
  refine Y.p2 F 2 24 true fun ac F=>Y.pv2 F (X.pickT rfl (F.ev 24 (.bool true)) (X.kc (.bool true) rfl)) (fun _ F=>X.move rfl (F.ev 27 (.bool true))) fun ac F=>Y.p3 F 6 28 true fun ac F=>Y.ps F 6 28 true fun ac F=>Y.pv2 F (X.pickT rfl (F.ev 28 (.bool true)) (X.kc (.bool true) rfl)) (fun _ F=>X.move rfl (F.ev 33 (.bool true))) fun ac F=>Y.p3 F 12 34 true fun ac F=>Y.ps F 12 34 true fun ac F=>Y.pv F (X.pickT rfl (F.ev 34 (.bool true)) (X.kc (.bool true) rfl)) ?_;clear F ac;intro ac F
  refine Y.nt F [(1, Vp w.heap.size), (3, Vi p.nt), (4, Vi p.nh), (39, .bool true)] ?_;clear F ac;intro ac F
  refine Y.cT F 39 ?_
  refine Y.sk F 2 (Vi 2) ?_;clear F ac;intro ac F
  refine Y.ret ?_
  refine X.thenR ?_
  exact Y.ret0 (v := Vi 2) F (Y.r1 F) ⟨ret_int (chk_big (by omega)).symm, G⟩
end Go.Proofs.Ytodedneanlekdaa
