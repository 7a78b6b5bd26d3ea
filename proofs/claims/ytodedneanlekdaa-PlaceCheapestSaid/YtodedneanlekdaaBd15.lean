/- Several texts of this claim in one file. (1) Contracts: far, Large, SameInts. (2) Contracts: Contains, Repair$1, differ. (3) Contracts: Allowed, Cost, Hopeless, Bound. (4) Contracts: the reference's Allowed, Cost, Hopeless, Bound. (5) Contracts: with, all (reference). (6) Contracts: the reference's first, Best. (7) Contract: sorted. (8) Contracts: the reference's List, Count. (9) Contract: the reference's Repair. (10) Allowed plans are those of the list; one that does not use the host stays. Nothing of the program is proved here. (11) Contracts: ints, Copy, Same. (12) An easier problem: a bond less, larger hosts. Nothing of the program is proved here. (13) Leaves that cover all plans: no one begins with another, and together they have as many plans as there are. Nothing of the program is proved here. -/
import Derived.Test.YtodedneanlekdaaBd11
import Derived.Test.YtodedneanlekdaaBd3
import Derived.Test.YtodedneanlekdaaBd14
import Derived.Test.YtodedneanlekdaaBd13
namespace Go.Proofs.Ytodedneanlekdaa
set_option linter.unusedSimpArgs false
set_option linter.unusedVariables false
section
open Go.RowKit

set_option maxRecDepth 100000 in
set_option maxHeartbeats 1000000 in
theorem far_any (p : Pb) (ta ha ba la : Option Addr) (tc hc bc lc : Nat) (w : World) (hP : PbAt w p ta ha ba la tc hc bc lc) :
  Calls Try.prog 15 #[.agg #[.slice ta p.nt tc, .slice ha p.nh hc, .slice ba p.nb bc, .slice la p.nl lc]] w fun e w' => e = .returned (.bool (farB p)) ∧ Gr w w' := by
 have G := Gr.refl w
 have hpt := hP.t
 have hph := hP.h
 have hpb := hP.b
 have hpl := hP.l
 have hplen := hP.len
 obtain ⟨hn1, hn2, hn3, hn4⟩ := hplen
 have hcp1 := hpt.cap
 have hcp2 := hph.cap
 have hcp3 := hpb.cap
 have hcp4 := hpl.cap
 refine Y.calls 57 Try.func15 rfl rfl ?_
 intro ac F0
 have F : Fr ac 57 [(0, .agg #[.slice ta p.nt tc, .slice ha p.nh hc, .slice ba p.nb bc, .slice la p.nl lc])] := F0.sub _
 clear F0
 refine Y.sl ?_
 have hgs3 : w.heap.size ≤ w.heap.size := G.size
 refine Y.pv F (X.box rfl (F.ev 0 (.agg #[.slice ta p.nt tc, .slice ha p.nh hc, .slice ba p.nb bc, .slice la p.nl lc])) X.bx) ?_;clear F ac;intro ac F
 have hgs5 : w.heap.size ≤ w.heap.size := G.size
 obtain ⟨w6, hw_, g, hb, hbl, hC2⟩ := Y.bxd (RCells.nil w) #[.slice ta p.nt tc, .slice ha p.nh hc, .slice ba p.nb bc, .slice la p.nl lc] 27;rw [hw_];clear hw_
 replace G := G.trans g
 have hC := hC2
 clear hC2
 replace hpt := hpt.gr g
 replace hph := hph.gr g
 replace hpb := hpb.gr g
 replace hpl := hpl.gr g
 have hsz4 := hbl
 clear g hb hbl
 refine Y.pv F (X.assign rfl (X.kc (.bool false) rfl)) ?_;clear F ac;intro ac F
 refine Y.nt F [(1, Vp w.heap.size)] ?_;clear F ac;intro ac F
 refine Y.seq ?_
 refine Y.sl ?_
 refine Y.pv4 F (X.field rfl (F.ev 1 (Vp w.heap.size)) (X.fld Try.underlying27 rfl (Try.siz22 _) rfl rfl)) (fun _ F=>X.load rfl (F.ev 5 (Vp w.heap.size)) (X.ld1 (Try.agg22 _) (hC.at 0 rfl))) (fun _ F=>X.len1 Try.underlying22 rfl (F.ev 6 (.slice ta p.nt tc))) (fun _ F=>X.binop rfl (F.ev 7 (Vi p.nt)) (X.kc (Vi 20) rfl) (X.gtrI Try.underlying3 rfl)) fun ac F=>Y.pv F (X.move rfl (F.ev 8 (.bool (decide ((20 : Int) < p.nt))))) ?_;clear F ac;intro ac F
 cases h7 : decide ((20 : Int) < p.nt) with
 | false =>
  try rw [h7] at F
  have h7p : ¬ ((20 : Int) < p.nt) := of_decide_eq_false h7
  refine Y.pg F 4 9 false (X.field rfl (F.ev 1 (Vp w.heap.size)) (X.fld Try.underlying27 rfl (Try.siz23 _) rfl rfl)) fun ac F=>Y.pg F 4 9 false (X.load rfl (F.ev 10 (.pointer (some ⟨w.heap.size, 1, none⟩))) (X.ld1 (Try.agg23 _) (hC.at 1 rfl))) fun ac F=>Y.pg F 4 9 false (X.len1 Try.underlying23 rfl (F.ev 11 (.slice ha p.nh hc))) fun ac F=>Y.pg F 4 9 false (X.binop rfl (F.ev 12 (Vi p.nh)) (X.kc (Vi 20) rfl) (X.gtrI Try.underlying3 rfl)) fun ac F=>Y.pv2 F (X.pickF rfl (F.ev 9 (.bool false)) (F.ev 13 (.bool (decide ((20 : Int) < p.nh))))) (fun _ F=>X.move rfl (F.ev 14 (.bool (decide ((20 : Int) < p.nh))))) ?_;clear F ac;intro ac F
  cases h8 : decide ((20 : Int) < p.nh) with
  | false =>
   try rw [h8] at F
   have h8p : ¬ ((20 : Int) < p.nh) := of_decide_eq_false h8
   refine Y.pg F 10 15 false (X.field rfl (F.ev 1 (Vp w.heap.size)) (X.fld Try.underlying27 rfl (Try.siz24 _) rfl rfl)) fun ac F=>Y.pg F 10 15 false (X.load rfl (F.ev 16 (.pointer (some ⟨w.heap.size, 2, none⟩))) (X.ld1 (Try.agg24 _) (hC.at 2 rfl))) fun ac F=>Y.pg F 10 15 false (X.len1 Try.underlying24 rfl (F.ev 17 (.slice ba p.nb bc))) fun ac F=>Y.pg F 10 15 false (X.binop rfl (F.ev 18 (Vi p.nb)) (X.kc (Vi 40) rfl) (X.gtrI Try.underlying3 rfl)) fun ac F=>Y.pv2 F (X.pickF rfl (F.ev 15 (.bool false)) (F.ev 19 (.bool (decide ((40 : Int) < p.nb))))) (fun _ F=>X.move rfl (F.ev 20 (.bool (decide ((40 : Int) < p.nb))))) ?_;clear F ac;intro ac F
   cases h9 : decide ((40 : Int) < p.nb) with
   | false =>
    try rw [h9] at F
    have h9p : ¬ ((40 : Int) < p.nb) := of_decide_eq_false h9
    refine Y.pg F 16 21 false (X.field rfl (F.ev 1 (Vp w.heap.size)) (X.fld Try.underlying27 rfl (Try.siz25 _) rfl rfl)) fun ac F=>Y.pg F 16 21 false (X.load rfl (F.ev 22 (.pointer (some ⟨w.heap.size, 3, none⟩))) (X.ld1 (Try.agg25 _) (hC.at 3 rfl))) fun ac F=>Y.pg F 16 21 false (X.len1 Try.underlying25 rfl (F.ev 23 (.slice la p.nl lc))) fun ac F=>Y.pg F 16 21 false (X.binop rfl (F.ev 24 (Vi p.nl)) (X.kc (Vi 40) rfl) (X.gtrI Try.underlying3 rfl)) fun ac F=>Y.pv F (X.pickF rfl (F.ev 21 (.bool false)) (F.ev 25 (.bool (decide ((40 : Int) < p.nl))))) ?_;clear F ac;intro ac F
    refine Y.nt F [(1, Vp w.heap.size), (26, .bool (decide ((40 : Int) < p.nl)))] ?_;clear F ac;intro ac F
    cases h10 : decide ((40 : Int) < p.nl) with
    | false =>
     try rw [h10] at F
     have h10p : ¬ ((40 : Int) < p.nl) := of_decide_eq_false h10
     refine Y.cF F 26 ?_
     refine Y.skip ?_
     refine X.thenN ?_
     refine Y.seq ?_
     refine Y.sg F [(1, Vp w.heap.size), (3, Vi 0)] (Y.pv F (X.assign rfl (X.kc (Vi 0) rfl)) fun ac F=>Y.fin F) ?_;clear F ac;intro ac F
     refine Y.block ?_
     refine Y.loop (fun me_ ac wr => ∃ (i : Nat), me_ = p.nt - i ∧ Only (fun b => False) w6 wr ∧ i ≤ p.nt ∧ allN (fun i => decide ((p.tn i).size ≤ 100)) i = true ∧ Fr ac 57 [(1, Vp w.heap.size), (3, Vi i)]) _ ⟨0, rfl, Only.refl _ _, Nat.zero_le _, rfl, F.sub _⟩ ?_
     have hptB1 := hpt
     have hphB1 := hph
     have hpbB1 := hpb
     have hplB1 := hpl
     have GB1 := G
     have hCB1 := hC
     clear F ac
     intro me_ ac w11 hI
     obtain ⟨i, rfl, hO1, h0i, hoki, F⟩ := hI
     replace G := GB1.trans (hO1.gr (fun _ _ h => h))
     replace hpt := (hP.t).gr G
     replace hph := (hP.h).gr G
     replace hpb := (hP.b).gr G
     replace hpl := (hP.l).gr G
     replace hC := (RCells.cons (hO1.cell (hCB1.at 0 rfl) (fun h => h)) (RCells.cons (hO1.cell (hCB1.at 1 rfl) (fun h => h)) (RCells.cons (hO1.cell (hCB1.at 2 rfl) (fun h => h)) (RCells.cons (hO1.cell (hCB1.at 3 rfl) (fun h => h)) (RCells.nil _)))))
     refine Y.seq ?_
     refine Y.sg F [(1, Vp w.heap.size), (3, Vi i), (31, .bool (decide ((i : Int) < p.nt)))] (by
      refine Y.pv F (X.move rfl (F.ev 3 (Vi i))) fun ac F=>?_
      refine Y.pv F (X.field rfl (F.ev 1 (Vp w.heap.size)) (X.fld Try.underlying27 rfl (Try.siz22 _) rfl rfl)) fun ac F=>?_
      refine Y.pv F (X.load rfl (F.ev 28 (Vp w.heap.size)) (X.ld1 (Try.agg22 _) (hC.at 0 rfl))) fun ac F=>?_
      refine Y.pv F (X.len1 Try.underlying22 rfl (F.ev 29 (.slice ta p.nt tc))) fun ac F=>?_
      refine Y.pv F (X.binop rfl (F.ev 27 (Vi i)) (F.ev 30 (Vi p.nt)) (X.lssI Try.underlying3 rfl)) fun ac F=>?_
      exact Y.fin F) ?_;clear F ac;intro ac F
     cases h12 : decide ((i : Int) < p.nt) with
     | false =>
      try rw [h12] at F
      have h12p : ¬ ((i : Int) < p.nt) := of_decide_eq_false h12
      obtain rfl : i = p.nt := by omega
      refine Y.cF F 31 ?_
      refine Y.exit ?_
      refine X.thenX (X.thenX (X.blockX (X.thenN ?_)))
      refine Y.seq ?_
      refine Y.sg F [(1, Vp w.heap.size), (4, Vi 0)] (Y.pv F (X.assign rfl (X.kc (Vi 0) rfl)) fun ac F=>Y.fin F) ?_;clear F ac;intro ac F
      refine Y.block ?_
      refine Y.loop (fun me_ ac wr => ∃ (j : Nat), me_ = p.nh - j ∧ Only (fun b => False) w11 wr ∧ j ≤ p.nh ∧ allN (fun i => decide ((p.hn i).size ≤ 100)) j = true ∧ Fr ac 57 [(1, Vp w.heap.size), (4, Vi j)]) _ ⟨0, rfl, Only.refl _ _, Nat.zero_le _, rfl, F.sub _⟩ ?_
      have hptB1 := hpt
      have hphB1 := hph
      have hpbB1 := hpb
      have hplB1 := hpl
      have GB1 := G
      have hCB1 := hC
      clear F ac
      intro me_ ac w13 hI
      obtain ⟨j, rfl, hO1, h0j, hokj, F⟩ := hI
      replace G := GB1.trans (hO1.gr (fun _ _ h => h))
      replace hpt := (hP.t).gr G
      replace hph := (hP.h).gr G
      replace hpb := (hP.b).gr G
      replace hpl := (hP.l).gr G
      replace hC := (RCells.cons (hO1.cell (hCB1.at 0 rfl) (fun h => h)) (RCells.cons (hO1.cell (hCB1.at 1 rfl) (fun h => h)) (RCells.cons (hO1.cell (hCB1.at 2 rfl) (fun h => h)) (RCells.cons (hO1.cell (hCB1.at 3 rfl) (fun h => h)) (RCells.nil _)))))
      refine Y.seq ?_
      refine Y.sg F [(1, Vp w.heap.size), (4, Vi j), (46, .bool (decide ((j : Int) < p.nh)))] (by
       refine Y.pv F (X.move rfl (F.ev 4 (Vi j))) fun ac F=>?_
       refine Y.pv F (X.field rfl (F.ev 1 (Vp w.heap.size)) (X.fld Try.underlying27 rfl (Try.siz23 _) rfl rfl)) fun ac F=>?_
       refine Y.pv F (X.load rfl (F.ev 43 (.pointer (some ⟨w.heap.size, 1, none⟩))) (X.ld1 (Try.agg23 _) (hC.at 1 rfl))) fun ac F=>?_
       refine Y.pv F (X.len1 Try.underlying23 rfl (F.ev 44 (.slice ha p.nh hc))) fun ac F=>?_
       refine Y.pv F (X.binop rfl (F.ev 42 (Vi j)) (F.ev 45 (Vi p.nh)) (X.lssI Try.underlying3 rfl)) fun ac F=>?_
       exact Y.fin F) ?_;clear F ac;intro ac F
      cases h14 : decide ((j : Int) < p.nh) with
      | false =>
       try rw [h14] at F
       have h14p : ¬ ((j : Int) < p.nh) := of_decide_eq_false h14
       obtain rfl : j = p.nh := by omega
       refine Y.cF F 46 ?_
       refine Y.exit ?_
       refine X.thenX (X.thenX (X.blockX (X.thenN ?_)))
       refine Y.sk F 2 (.bool false) ?_;clear F ac;intro ac F
       refine Y.ret ?_
       exact Y.ret0 (v := .bool false) F (Y.r1 F) ⟨by rw [far_no (by omega) hoki hokj], G⟩
      | true =>
       try rw [h14] at F
       have h14p : ((j : Int) < p.nh) := of_decide_eq_true h14
       have h9j : j < p.nh := by omega
       refine Y.cT F 46 ?_
       refine Y.skip ?_
       refine X.thenN ?_
       refine Y.seq ?_
       refine Y.block ?_
       refine Y.sl ?_
       refine Y.pv3 F (X.field rfl (F.ev 1 (Vp w.heap.size)) (X.fld Try.underlying27 rfl (Try.siz23 _) rfl rfl)) (fun _ F=>X.load rfl (F.ev 49 (.pointer (some ⟨w.heap.size, 1, none⟩))) (X.ld1 (Try.agg23 _) (hC.at 1 rfl))) (fun _ F=>X.move rfl (F.ev 4 (Vi j))) ?_;clear F ac;intro ac F
       obtain ⟨pd15, pe15, -, pc15⟩ := hph.at (j := j) (by omega)
       subst pe15
       replace hC := hC.append (show RCells w13 (Y.cs (pd15.add (j * 6)) [.string (p.hn j), Vi (p.hv j 1), Vi (p.hv j 2), Vi (p.hv j 3), Vi (p.hv j 4), Vi (p.hv j 5)]) from (RCells.cons (pc15 0 (by decide)) (RCells.cons (pc15 1 (by decide)) (RCells.cons (pc15 2 (by decide)) (RCells.cons (pc15 3 (by decide)) (RCells.cons (pc15 4 (by decide)) (RCells.cons (pc15 5 (by decide)) (RCells.nil _))))))))
       clear pc15
       refine Y.pv4 F (X.index rfl (F.ev 50 (.slice (some pd15) p.nh hc)) (F.ev 51 (Vi j)) (X.idx (k := j) Try.underlying23 (Try.siz53 _) (by omega) (by omega) rfl)) (fun _ F=>X.field rfl (F.ev 52 (.pointer (some (pd15.add (j * 6))))) (X.fld Try.underlying53 rfl (Try.siz9 _) rfl rfl)) (fun _ F=>X.load rfl (F.ev 53 (.pointer (some (pd15.add (j * 6))))) (X.ld1 (Try.agg9 _) (hC.at 4 rfl))) (fun _ F=>Y.lenS Try.underlying9 rfl (F.ev 54 (.string (p.hn j)))) fun ac F=>Y.pv F (X.binop rfl (F.ev 55 (Vi ((p.hn j).size : Nat))) (X.kc (Vi 100) rfl) (X.gtrI Try.underlying3 rfl)) ?_;clear F ac;intro ac F
       refine Y.nt F [(1, Vp w.heap.size), (4, Vi j), (56, .bool (decide ((100 : Int) < ((p.hn j).size : Nat))))] ?_;clear F ac;intro ac F
       cases h16 : decide ((100 : Int) < ((p.hn j).size : Nat)) with
       | false =>
        try rw [h16] at F
        have h16p : ¬ ((100 : Int) < ((p.hn j).size : Nat)) := of_decide_eq_false h16
        refine Y.cF F 56 ?_
        refine Y.skip ?_
        refine X.blockN (X.thenN ?_)
        refine Y.lg F [(1, Vp w.heap.size), (4, Vi ((j : Int) + 1))] (by
         refine Y.pv F (X.move rfl (F.ev 4 (Vi j))) fun ac F=>?_
         refine Y.pv F (X.binop rfl (F.ev 47 (Vi j)) (X.kc (Vi 1) rfl) (X.addI Try.underlying3 rfl (by omega) (by omega))) fun ac F=>?_
         refine Y.pv F (X.assign rfl (F.ev 48 (Vi ((j : Int) + 1)))) fun ac F=>?_
         exact Y.fin F) ?_;clear F ac;intro ac F
        refine ⟨_, ?_, j + 1, rfl, hO1, by omega, allN_succ hokj (decide_eq_true (by omega)), F.sub _⟩
        omega
       | true =>
        try rw [h16] at F
        have h16p : ((100 : Int) < ((p.hn j).size : Nat)) := of_decide_eq_true h16
        refine Y.cT F 56 ?_
        refine Y.sk F 2 (.bool true) ?_;clear F ac;intro ac F
        refine Y.ret ?_
        refine X.blockR (X.thenR (X.thenR (X.blockR (X.thenR ?_))))
        exact Y.ret0 (v := .bool true) F (Y.r1 F) ⟨by rw [far_h h9j (by omega)], G⟩
     | true =>
      try rw [h12] at F
      have h12p : ((i : Int) < p.nt) := of_decide_eq_true h12
      have h9i : i < p.nt := by omega
      refine Y.cT F 31 ?_
      refine Y.skip ?_
      refine X.thenN ?_
      refine Y.seq ?_
      refine Y.block ?_
      refine Y.sl ?_
      refine Y.pv3 F (X.field rfl (F.ev 1 (Vp w.heap.size)) (X.fld Try.underlying27 rfl (Try.siz22 _) rfl rfl)) (fun _ F=>X.load rfl (F.ev 34 (Vp w.heap.size)) (X.ld1 (Try.agg22 _) (hC.at 0 rfl))) (fun _ F=>X.move rfl (F.ev 3 (Vi i))) ?_;clear F ac;intro ac F
      obtain ⟨pd17, pe17, -, pc17⟩ := hpt.at (j := i) (by omega)
      subst pe17
      replace hC := hC.append (show RCells w11 (Y.cs (pd17.add (i * 4)) [.string (p.tn i), Vi (p.tv i 1), Vi (p.tv i 2), Vi (p.tv i 3)]) from (RCells.cons (pc17 0 (by decide)) (RCells.cons (pc17 1 (by decide)) (RCells.cons (pc17 2 (by decide)) (RCells.cons (pc17 3 (by decide)) (RCells.nil _))))))
      clear pc17
      refine Y.pv4 F (X.index rfl (F.ev 35 (.slice (some pd17) p.nt tc)) (F.ev 36 (Vi i)) (X.idx (k := i) Try.underlying22 (Try.siz74 _) (by omega) (by omega) rfl)) (fun _ F=>X.field rfl (F.ev 37 (.pointer (some (pd17.add (i * 4))))) (X.fld Try.underlying74 rfl (Try.siz9 _) rfl rfl)) (fun _ F=>X.load rfl (F.ev 38 (.pointer (some (pd17.add (i * 4))))) (X.ld1 (Try.agg9 _) (hC.at 4 rfl))) (fun _ F=>Y.lenS Try.underlying9 rfl (F.ev 39 (.string (p.tn i)))) fun ac F=>Y.pv F (X.binop rfl (F.ev 40 (Vi ((p.tn i).size : Nat))) (X.kc (Vi 100) rfl) (X.gtrI Try.underlying3 rfl)) ?_;clear F ac;intro ac F
      refine Y.nt F [(1, Vp w.heap.size), (3, Vi i), (41, .bool (decide ((100 : Int) < ((p.tn i).size : Nat))))] ?_;clear F ac;intro ac F
      cases h18 : decide ((100 : Int) < ((p.tn i).size : Nat)) with
      | false =>
       try rw [h18] at F
       have h18p : ¬ ((100 : Int) < ((p.tn i).size : Nat)) := of_decide_eq_false h18
       refine Y.cF F 41 ?_
       refine Y.skip ?_
       refine X.blockN (X.thenN ?_)
       refine Y.lg F [(1, Vp w.heap.size), (3, Vi ((i : Int) + 1))] (by
        refine Y.pv F (X.move rfl (F.ev 3 (Vi i))) fun ac F=>?_
        refine Y.pv F (X.binop rfl (F.ev 32 (Vi i)) (X.kc (Vi 1) rfl) (X.addI Try.underlying3 rfl (by omega) (by omega))) fun ac F=>?_
        refine Y.pv F (X.assign rfl (F.ev 33 (Vi ((i : Int) + 1)))) fun ac F=>?_
        exact Y.fin F) ?_;clear F ac;intro ac F
       refine ⟨_, ?_, i + 1, rfl, hO1, by omega, allN_succ hoki (decide_eq_true (by omega)), F.sub _⟩
       omega
      | true =>
       try rw [h18] at F
       have h18p : ((100 : Int) < ((p.tn i).size : Nat)) := of_decide_eq_true h18
       refine Y.cT F 41 ?_
       refine Y.sk F 2 (.bool true) ?_;clear F ac;intro ac F
       refine Y.ret ?_
       refine X.blockR (X.thenR (X.thenR (X.blockR (X.thenR ?_))))
       exact Y.ret0 (v := .bool true) F (Y.r1 F) ⟨by rw [far_t h9i (by omega)], G⟩
    | true =>
     try rw [h10] at F
     have h10p : ((40 : Int) < p.nl) := of_decide_eq_true h10
     refine Y.cT F 26 ?_
     refine Y.sk F 2 (.bool true) ?_;clear F ac;intro ac F
     refine Y.ret ?_
     refine X.thenR ?_
     exact Y.ret0 (v := .bool true) F (Y.r1 F) ⟨by rw [far_n (by omega)], G⟩
   | true =>
    try rw [h9] at F
    have h9p : ((40 : Int) < p.nb) := of_decide_eq_true h9
    refine Y.p3 F 16 21 true fun ac F=>Y.ps F 16 21 true fun ac F=>Y.pv F (X.pickT rfl (F.ev 21 (.bool true)) (X.kc (.bool true) rfl)) ?_;clear F ac;intro ac F
    refine Y.nt F [(1, Vp w.heap.size), (26, .bool true)] ?_;clear F ac;intro ac F
    refine Y.cT F 26 ?_
    refine Y.sk F 2 (.bool true) ?_;clear F ac;intro ac F
    refine Y.ret ?_
    refine X.thenR ?_
    exact Y.ret0 (v := .bool true) F (Y.r1 F) ⟨by rw [far_n (by omega)], G⟩
  | true =>
   try rw [h8] at F
   have h8p : ((20 : Int) < p.nh) := of_decide_eq_true h8
   refine Y.p3 F 10 15 true fun ac F=>Y.ps F 10 15 true fun ac F=>Y.pv2 F (X.pickT rfl (F.ev 15 (.bool true)) (X.kc (.bool true) rfl)) (fun _ F=>X.move rfl (F.ev 20 (.bool true))) fun ac F=>Y.p3 F 16 21 true fun ac F=>Y.ps F 16 21 true fun ac F=>Y.pv F (X.pickT rfl (F.ev 21 (.bool true)) (X.kc (.bool true) rfl)) ?_;clear F ac;intro ac F
   refine Y.nt F [(1, Vp w.heap.size), (26, .bool true)] ?_;clear F ac;intro ac F
   refine Y.cT F 26 ?_
   refine Y.sk F 2 (.bool true) ?_;clear F ac;intro ac F
   refine Y.ret ?_
   refine X.thenR ?_
   exact Y.ret0 (v := .bool true) F (Y.r1 F) ⟨by rw [far_n (by omega)], G⟩
 | true =>
  try rw [h7] at F
  have h7p : ((20 : Int) < p.nt) := of_decide_eq_true h7
  refine Y.p3 F 4 9 true fun ac F=>Y.ps F 4 9 true fun ac F=>Y.pv2 F (X.pickT rfl (F.ev 9 (.bool true)) (X.kc (.bool true) rfl)) (fun _ F=>X.move rfl (F.ev 14 (.bool true))) fun ac F=>Y.p3 F 10 15 true fun ac F=>Y.ps F 10 15 true fun ac F=>Y.pv2 F (X.pickT rfl (F.ev 15 (.bool true)) (X.kc (.bool true) rfl)) (fun _ F=>X.move rfl (F.ev 20 (.bool true))) fun ac F=>Y.p3 F 16 21 true ?_;clear F ac;intro ac F
  refine Y.ps F 16 21 true fun ac F=>Y.pv F (X.pickT rfl (F.ev 21 (.bool true)) (X.kc (.bool true) rfl)) ?_;clear F ac;intro ac F
  refine Y.nt F [(1, Vp w.heap.size), (26, .bool true)] ?_;clear F ac;intro ac F
  refine Y.cT F 26 ?_
  refine Y.sk F 2 (.bool true) ?_;clear F ac;intro ac F
  refine Y.ret ?_
  refine X.thenR ?_
  exact Y.ret0 (v := .bool true) F (Y.r1 F) ⟨by rw [far_n (by omega)], G⟩
set_option maxRecDepth 100000 in
set_option maxHeartbeats 400000 in
theorem large_any (p : Pb) (ta ha ba la : Option Addr) (tc hc bc lc : Nat) (w : World) (hP : PbAt w p ta ha ba la tc hc bc lc) :
  Calls Try.prog 21 #[.agg #[.slice ta p.nt tc, .slice ha p.nh hc, .slice ba p.nb bc, .slice la p.nl lc]] w fun e w' => e = .returned (.bool (largeB p)) ∧ Gr w w' := by
 have G := Gr.refl w
 have hpt := hP.t
 have hph := hP.h
 have hpb := hP.b
 have hpl := hP.l
 have hplen := hP.len
 obtain ⟨hn1, hn2, hn3, hn4⟩ := hplen
 have hcp1 := hpt.cap
 have hcp2 := hph.cap
 have hcp3 := hpb.cap
 have hcp4 := hpl.cap
 refine Y.calls 22 Try.func21 rfl rfl ?_
 intro ac F0
 have F : Fr ac 22 [(0, .agg #[.slice ta p.nt tc, .slice ha p.nh hc, .slice ba p.nb bc, .slice la p.nl lc])] := F0.sub _
 clear F0
 refine Y.sl ?_
 have hgs3 : w.heap.size ≤ w.heap.size := G.size
 refine Y.pv F (X.box rfl (F.ev 0 (.agg #[.slice ta p.nt tc, .slice ha p.nh hc, .slice ba p.nb bc, .slice la p.nl lc])) X.bx) ?_;clear F ac;intro ac F
 have hgs5 : w.heap.size ≤ w.heap.size := G.size
 obtain ⟨w6, hw_, g, hb, hbl, hC2⟩ := Y.bxd (RCells.nil w) #[.slice ta p.nt tc, .slice ha p.nh hc, .slice ba p.nb bc, .slice la p.nl lc] 27;rw [hw_];clear hw_
 replace G := G.trans g
 have hC := hC2
 clear hC2
 replace hpt := hpt.gr g
 replace hph := hph.gr g
 replace hpb := hpb.gr g
 replace hpl := hpl.gr g
 have hsz4 := hbl
 clear g hb hbl
 refine Y.pv F (X.assign rfl (X.kc (.bool false) rfl)) ?_;clear F ac;intro ac F
 refine Y.nt F [(1, Vp w.heap.size)] ?_;clear F ac;intro ac F
 refine Y.sl ?_
 refine Y.pv F (X.load rfl (F.ev 1 (Vp w.heap.size)) (X.ldN (Try.agg27 _) (Try.siz27 _) (Y.atz (⟨w.heap.size, 0, none⟩) (Y.AtFrom.cons (hC.at 0 rfl) (Y.AtFrom.cons (hC.at 1 rfl) (Y.AtFrom.cons (hC.at 2 rfl) (Y.AtFrom.cons (hC.at 3 rfl) (Y.AtFrom.nil _ _ _)))))))) fun ac F=>Y.pc F 15 (X.a1 (F.ev 3 (.agg #[.slice ta p.nt tc, .slice ha p.nh hc, .slice ba p.nb bc, .slice la p.nl lc]))) Try.func15 (far_any p ta ha ba la tc hc bc lc w6 (hP.gr G)) ?_
 clear F ac
 rintro e w7 ⟨rfl, g⟩
 refine ⟨_, rfl, ?_⟩
 intro ac F
 replace G := G.trans g
 replace hC := hC.gr g
 replace hpt := hpt.gr g
 replace hph := hph.gr g
 replace hpb := hpb.gr g
 replace hpl := hpl.gr g
 clear g
 refine Y.pv F (X.move rfl (F.ev 4 (.bool (farB p)))) ?_;clear F ac;intro ac F
 cases h8 : farB p with
 | false =>
  try rw [h8] at F
  refine Y.pg F 2 5 false (X.load rfl (F.ev 1 (Vp w.heap.size)) (X.ldN (Try.agg27 _) (Try.siz27 _) (Y.atz (⟨w.heap.size, 0, none⟩) (Y.AtFrom.cons (hC.at 0 rfl) (Y.AtFrom.cons (hC.at 1 rfl) (Y.AtFrom.cons (hC.at 2 rfl) (Y.AtFrom.cons (hC.at 3 rfl) (Y.AtFrom.nil _ _ _)))))))) ?_;clear F ac;intro ac F
  refine Y.pcall F (X.w1 rfl (F.yl (j := 2) (d := 5) (b := false) rfl (by kernel_rfl))) rfl (X.enter (F := 19) rfl (X.kc (.func (.func 19) #[] #[]) rfl) (X.a1 (F.ev 6 (.agg #[.slice ta p.nt tc, .slice ha p.nh hc, .slice ba p.nb bc, .slice la p.nl lc]))) (enters_of Try.func19 (by kernel_rfl) rfl _)) (check2_any p ta ha ba la tc hc bc lc w7 (hP.gr G)) ?_
  clear F ac
  rintro e w9 ⟨rfl, g⟩
  refine ⟨_, rfl, ?_⟩
  intro ac F
  replace G := G.trans g
  replace hC := hC.gr g
  replace hpt := hpt.gr g
  replace hph := hph.gr g
  replace hpb := hpb.gr g
  replace hpl := hpl.gr g
  clear g
  refine Y.pg F 2 5 false (X.binop rfl (F.ev 7 (Vi (chkE p))) (X.kc (Vi 0) rfl) (X.eqlI Try.underlying31 rfl)) fun ac F=>Y.pg F 2 5 false (X.move rfl (F.ev 8 (.bool ((chkE p : Int) == 0)))) ?_;clear F ac;intro ac F
  cases h10 : ((chkE p : Int) == 0) with
  | false =>
   try rw [h10] at F
   have h10p : ¬ (chkE p : Int) = 0 := by simpa using h10
   refine Y.p5 F 6 9 false fun ac F=>Y.pn F 11 14 fun ac F=>Y.pn F 11 14 fun ac F=>Y.pn F 11 14 fun ac F=>Y.pn F 11 14 fun ac F=>Y.ps F 6 9 false fun ac F=>Y.pg F 2 5 false (X.pickF rfl (F.ev 9 (.bool false)) (X.kc (.bool false) rfl)) fun ac F=>Y.pv2 F (X.pickF rfl (F.ev 5 (.bool false)) (F.ev 20 (.bool false))) (fun _ F=>X.assign rfl (F.ev 21 (.bool false))) ?_;clear F ac;intro ac F
   refine Y.nt F [(2, .bool false)] ?_;clear F ac;intro ac F
   refine Y.ret ?_
   exact Y.ret0 (v := .bool false) F (Y.r1 F) ⟨by unfold largeB; rw [h8, decide_eq_false (by omega : ¬ chkE p = 0)]; rfl, G⟩
  | true =>
   try rw [h10] at F
   have h10p : (chkE p : Int) = 0 := by simpa using h10
   refine Y.pg F 6 9 true (X.field rfl (F.ev 1 (Vp w.heap.size)) (X.fld Try.underlying27 rfl (Try.siz22 _) rfl rfl)) fun ac F=>Y.pg F 6 9 true (X.load rfl (F.ev 10 (Vp w.heap.size)) (X.ld1 (Try.agg22 _) (hC.at 0 rfl))) fun ac F=>Y.pg F 6 9 true (X.len1 Try.underlying22 rfl (F.ev 11 (.slice ta p.nt tc))) fun ac F=>Y.pg F 6 9 true (X.binop rfl (F.ev 12 (Vi p.nt)) (X.kc (Vi 5) rfl) (X.gtrI Try.underlying3 rfl)) fun ac F=>Y.pg F 6 9 true (X.move rfl (F.ev 13 (.bool (decide ((5 : Int) < p.nt))))) ?_;clear F ac;intro ac F
   cases h11 : decide ((5 : Int) < p.nt) with
   | false =>
    try rw [h11] at F
    have h11p : ¬ ((5 : Int) < p.nt) := of_decide_eq_false h11
    refine Y.pg F 11 14 false (X.field rfl (F.ev 1 (Vp w.heap.size)) (X.fld Try.underlying27 rfl (Try.siz23 _) rfl rfl)) fun ac F=>Y.pg F 11 14 false (X.load rfl (F.ev 15 (.pointer (some ⟨w.heap.size, 1, none⟩))) (X.ld1 (Try.agg23 _) (hC.at 1 rfl))) fun ac F=>Y.pg F 11 14 false (X.len1 Try.underlying23 rfl (F.ev 16 (.slice ha p.nh hc))) fun ac F=>Y.pg F 11 14 false (X.binop rfl (F.ev 17 (Vi p.nh)) (X.kc (Vi 4) rfl) (X.gtrI Try.underlying3 rfl)) fun ac F=>Y.pg F 6 9 true (X.pickF rfl (F.ev 14 (.bool false)) (F.ev 18 (.bool (decide ((4 : Int) < p.nh))))) fun ac F=>Y.pg F 2 5 false (X.pickT rfl (F.ev 9 (.bool true)) (F.ev 19 (.bool (decide ((4 : Int) < p.nh))))) fun ac F=>Y.pv2 F (X.pickF rfl (F.ev 5 (.bool false)) (F.ev 20 (.bool (decide ((4 : Int) < p.nh))))) (fun _ F=>X.assign rfl (F.ev 21 (.bool (decide ((4 : Int) < p.nh))))) ?_;clear F ac;intro ac F
    refine Y.nt F [(2, .bool (decide ((4 : Int) < p.nh)))] ?_;clear F ac;intro ac F
    refine Y.ret ?_
    exact Y.ret0 (v := .bool (decide ((4 : Int) < p.nh))) F (Y.r1 F) ⟨by unfold largeB; rw [h8, decide_eq_true (by omega : chkE p = 0), decide_eq_false (by omega : ¬ 5 < p.nt), show decide ((4 : Int) < p.nh) = decide (4 < p.nh) from decide_eq_decide.2 (by omega)]; simp, G⟩
   | true =>
    try rw [h11] at F
    have h11p : ((5 : Int) < p.nt) := of_decide_eq_true h11
    refine Y.p3 F 11 14 true fun ac F=>Y.ps F 11 14 true fun ac F=>Y.pg F 6 9 true (X.pickT rfl (F.ev 14 (.bool true)) (X.kc (.bool true) rfl)) fun ac F=>Y.pg F 2 5 false (X.pickT rfl (F.ev 9 (.bool true)) (F.ev 19 (.bool true))) fun ac F=>Y.pv2 F (X.pickF rfl (F.ev 5 (.bool false)) (F.ev 20 (.bool true))) (fun _ F=>X.assign rfl (F.ev 21 (.bool true))) ?_;clear F ac;intro ac F
    refine Y.nt F [(2, .bool true)] ?_;clear F ac;intro ac F
    refine Y.ret ?_
    exact Y.ret0 (v := .bool true) F (Y.r1 F) ⟨by unfold largeB; rw [h8, decide_eq_true (by omega : chkE p = 0), decide_eq_true (by omega : 5 < p.nt)]; rfl, G⟩
 | true =>
  try rw [h8] at F
  refine Y.p3 F 2 5 true fun ac F=>Y.ps F 2 5 true fun ac F=>Y.pn F 6 9 fun ac F=>Y.pn F 6 9 fun ac F=>Y.pn F 6 9 fun ac F=>Y.pn F 6 9 fun ac F=>Y.pn F 6 9 fun ac F=>Y.pn F 11 14 fun ac F=>Y.pn F 11 14 fun ac F=>Y.pn F 11 14 fun ac F=>Y.pn F 11 14 ?_;clear F ac;intro ac F
  refine Y.pn F 6 9 fun ac F=>Y.ps F 2 5 true fun ac F=>Y.pv2 F (X.pickT rfl (F.ev 5 (.bool true)) (X.kc (.bool true) rfl)) (fun _ F=>X.assign rfl (F.ev 21 (.bool true))) ?_;clear F ac;intro ac F
  refine Y.nt F [(2, .bool true)] ?_;clear F ac;intro ac F
  refine Y.ret ?_
  exact Y.ret0 (v := .bool true) F (Y.r1 F) ⟨by unfold largeB; rw [h8]; rfl, G⟩
theorem same_yes {xs ys : List Int} (hl : xs.length = ys.length) (h : ∀ j, j < xs.length → xs[j]?.getD 0 = ys[j]?.getD 0) : decide (xs = ys) = true := by
 refine decide_eq_true (List.ext_getElem hl fun i h1 h2 => ?_)
 have := h i h1
 simpa [h1, h2] using this
theorem same_no {xs ys : List Int} {j : Nat} (hj : j < xs.length) (hl : xs.length = ys.length) (h : ¬ xs[j]?.getD 0 = ys[j]?.getD 0) : decide (xs = ys) = false :=
 decide_eq_false fun e => h (by rw [e])
end
section
open Go.RowKit

section
variable {p : Pb} {plan : List Int} {host : Int}
end
end
section
open Go.RowKit
end
section
open Go.RowKit

set_option maxRecDepth 100000 in
set_option maxHeartbeats 1000000 in
theorem begin_any (p : Pb) (ta ha ba la : Option Addr) (tc hc bc lc : Nat) (a : Option Addr) (c : Nat) (xs : List Int) (w : World) (hP : PbAt w p ta ha ba la tc hc bc lc) (hX : Ints w a xs.length xs) :
  Calls Try.prog 78 #[.agg #[.slice ta p.nt tc, .slice ha p.nh hc, .slice ba p.nb bc, .slice la p.nl lc], .slice a xs.length c] w fun e w' => e = .returned (Vi (begE p xs)) ∧ Gr w w' := by
 have G := Gr.refl w
 have hpt := hP.t
 have hph := hP.h
 have hpb := hP.b
 have hpl := hP.l
 have hplen := hP.len
 obtain ⟨hn1, hn2, hn3, hn4⟩ := hplen
 have hcp1 := hpt.cap
 have hcp2 := hph.cap
 have hcp3 := hpb.cap
 have hcp4 := hpl.cap
 have hxs := hX
 have hlt := hxs.lt
 refine Y.calls 31 Try.func78 rfl rfl ?_
 intro ac F0
 have F : Fr ac 31 [(0, .agg #[.slice ta p.nt tc, .slice ha p.nh hc, .slice ba p.nb bc, .slice la p.nl lc]), (1, .slice a xs.length c)] := F0.sub _
 clear F0
 refine Y.sl ?_
 have hgs3 : w.heap.size ≤ w.heap.size := G.size
 refine Y.pv F (X.box rfl (F.ev 0 (.agg #[.slice ta p.nt tc, .slice ha p.nh hc, .slice ba p.nb bc, .slice la p.nl lc])) X.bx) ?_;clear F ac;intro ac F
 have hgs5 : w.heap.size ≤ w.heap.size := G.size
 obtain ⟨w6, hw_, g, hb, hbl, hC2⟩ := Y.bxd (RCells.nil w) #[.slice ta p.nt tc, .slice ha p.nh hc, .slice ba p.nb bc, .slice la p.nl lc] 27;rw [hw_];clear hw_
 replace G := G.trans g
 have hC := hC2
 clear hC2
 replace hpt := hpt.gr g
 replace hph := hph.gr g
 replace hpb := hpb.gr g
 replace hpl := hpl.gr g
 replace hxs := hxs.gr g
 have hsz4 := hbl
 clear g hb hbl
 refine Y.pv F (X.assign rfl (X.kc (Vi 0) rfl)) ?_;clear F ac;intro ac F
 refine Y.nt F [(1, .slice a xs.length c), (2, Vp w.heap.size)] ?_;clear F ac;intro ac F
 refine Y.sl ?_
 refine Y.pv F (X.load rfl (F.ev 2 (Vp w.heap.size)) (X.ldN (Try.agg27 _) (Try.siz27 _) (Y.atz (⟨w.heap.size, 0, none⟩) (Y.AtFrom.cons (hC.at 0 rfl) (Y.AtFrom.cons (hC.at 1 rfl) (Y.AtFrom.cons (hC.at 2 rfl) (Y.AtFrom.cons (hC.at 3 rfl) (Y.AtFrom.nil _ _ _)))))))) fun ac F=>Y.pc F 19 (X.a1 (F.ev 7 (.agg #[.slice ta p.nt tc, .slice ha p.nh hc, .slice ba p.nb bc, .slice la p.nl lc]))) Try.func19 (check2_any p ta ha ba la tc hc bc lc w6 (hP.gr G)) ?_
 clear F ac
 rintro e w7 ⟨rfl, g⟩
 refine ⟨_, rfl, ?_⟩
 intro ac F
 replace G := G.trans g
 replace hC := hC.gr g
 replace hpt := hpt.gr g
 replace hph := hph.gr g
 replace hpb := hpb.gr g
 replace hpl := hpl.gr g
 replace hxs := hxs.gr g
 clear g
 refine Y.pv F (X.assign rfl (F.ev 8 (Vi (chkE p)))) ?_;clear F ac;intro ac F
 refine Y.nt F [(1, .slice a xs.length c), (2, Vp w.heap.size), (5, Vi (chkE p))] ?_;clear F ac;intro ac F
 refine Y.seq ?_
 refine Y.sg F [(1, .slice a xs.length c), (2, Vp w.heap.size), (5, Vi (chkE p)), (10, .bool ((chkE p : Int) != 0))] (Y.pv F (X.move rfl (F.ev 5 (Vi (chkE p)))) fun ac F=>Y.pv F (X.binop rfl (F.ev 9 (Vi (chkE p))) (X.kc (Vi 0) rfl) (X.neqI Try.underlying31 rfl)) fun ac F=>Y.fin F) ?_;clear F ac;intro ac F
 cases h8 : ((chkE p : Int) != 0) with
 | false =>
  try rw [h8] at F
  have h8p : (chkE p : Int) = 0 := by simpa using h8
  refine Y.cF F 10 ?_
  refine Y.skip ?_
  refine X.thenN ?_
  refine Y.seq ?_
  refine Y.sg F [(1, .slice a xs.length c), (2, Vp w.heap.size), (17, .bool (decide ((p.nt : Int) < xs.length)))] (by
   refine Y.pv F (X.move rfl (F.ev 1 (.slice a xs.length c))) fun ac F=>?_
   refine Y.pv F (X.len1 Try.underlying34 rfl (F.ev 12 (.slice a xs.length c))) fun ac F=>?_
   refine Y.pv F (X.field rfl (F.ev 2 (Vp w.heap.size)) (X.fld Try.underlying27 rfl (Try.siz22 _) rfl rfl)) fun ac F=>?_
   refine Y.pv F (X.load rfl (F.ev 14 (Vp w.heap.size)) (X.ld1 (Try.agg22 _) (hC.at 0 rfl))) fun ac F=>?_
   refine Y.pv F (X.len1 Try.underlying22 rfl (F.ev 15 (.slice ta p.nt tc))) fun ac F=>?_
   refine Y.pv F (X.binop rfl (F.ev 13 (Vi xs.length)) (F.ev 16 (Vi p.nt)) (X.gtrI Try.underlying3 rfl)) fun ac F=>?_
   exact Y.fin F) ?_;clear F ac;intro ac F
  cases h9 : decide ((p.nt : Int) < xs.length) with
  | false =>
   try rw [h9] at F
   have h9p : ¬ ((p.nt : Int) < xs.length) := of_decide_eq_false h9
   refine Y.cF F 17 ?_
   refine Y.skip ?_
   refine X.thenN ?_
   refine Y.seq ?_
   refine Y.sg F [(1, .slice a xs.length c), (2, Vp w.heap.size), (6, Vi 0)] (Y.pv F (X.assign rfl (X.kc (Vi 0) rfl)) fun ac F=>Y.fin F) ?_;clear F ac;intro ac F
   refine Y.block ?_
   refine Y.loop (fun me_ ac wr => ∃ (i : Nat), me_ = xs.length - i ∧ Only (fun b => False) w7 wr ∧ i ≤ xs.length ∧ allN (fun i => isH p (xg xs i)) i = true ∧ Fr ac 31 [(1, .slice a xs.length c), (2, Vp w.heap.size), (6, Vi i)]) _ ⟨0, rfl, Only.refl _ _, Nat.zero_le _, rfl, F.sub _⟩ ?_
   have hptB1 := hpt
   have hphB1 := hph
   have hpbB1 := hpb
   have hplB1 := hpl
   have hxsB1 := hxs
   have GB1 := G
   have hCB1 := hC
   clear F ac
   intro me_ ac w10 hI
   obtain ⟨i, rfl, hO1, hi0, hok, F⟩ := hI
   replace G := GB1.trans (hO1.gr (fun _ _ h => h))
   replace hpt := (hP.t).gr G
   replace hph := (hP.h).gr G
   replace hpb := (hP.b).gr G
   replace hpl := (hP.l).gr G
   replace hxs := (hX).gr G
   replace hC := (RCells.cons (hO1.cell (hCB1.at 0 rfl) (fun h => h)) (RCells.cons (hO1.cell (hCB1.at 1 rfl) (fun h => h)) (RCells.cons (hO1.cell (hCB1.at 2 rfl) (fun h => h)) (RCells.cons (hO1.cell (hCB1.at 3 rfl) (fun h => h)) (RCells.nil _)))))
   refine Y.seq ?_
   refine Y.sg F [(1, .slice a xs.length c), (2, Vp w.heap.size), (6, Vi i), (21, .bool (decide ((i : Int) < xs.length)))] (Y.pv F (X.move rfl (F.ev 6 (Vi i))) fun ac F=>Y.pv F (X.move rfl (F.ev 1 (.slice a xs.length c))) fun ac F=>Y.pv F (X.len1 Try.underlying34 rfl (F.ev 19 (.slice a xs.length c))) fun ac F=>Y.pv F (X.binop rfl (F.ev 18 (Vi i)) (F.ev 20 (Vi xs.length)) (X.lssI Try.underlying3 rfl)) fun ac F=>Y.fin F) ?_;clear F ac;intro ac F
   cases h11 : decide ((i : Int) < xs.length) with
   | false =>
    try rw [h11] at F
    have h11p : ¬ ((i : Int) < xs.length) := of_decide_eq_false h11
    obtain rfl : i = xs.length := by omega
    refine Y.cF F 21 ?_
    refine Y.exit ?_
    refine X.thenX (X.thenX (X.blockX (X.thenN ?_)))
    refine Y.sk F 4 (Vi 0) ?_;clear F ac;intro ac F
    refine Y.ret ?_
    exact Y.ret0 (v := Vi 0) F (Y.r1 F) ⟨by rw [beg_3 (by omega) (by omega) hok], G⟩
   | true =>
    try rw [h11] at F
    have h11p : ((i : Int) < xs.length) := of_decide_eq_true h11
    have hi : i < xs.length := by omega
    refine Y.cT F 21 ?_
    refine Y.skip ?_
    refine X.thenN ?_
    refine Y.seq ?_
    refine Y.block ?_
    refine Y.seq ?_
    obtain ⟨pd12, pe12, -, pc12⟩ := hxs.at (j := i) (by omega)
    subst pe12
    replace hC := hC.append (show RCells w10 ([(pd12.add i, Vi (xs[i]?.getD 0))]) from (RCells.cons pc12 (RCells.nil _)))
    clear pc12
    refine Y.region F [some (.agg #[.slice ta p.nt tc, .slice ha p.nh hc, .slice ba p.nb bc, .slice la p.nl lc]), some (.slice (some pd12) xs.length c), some (Vi i), some (.pointer (some (pd12.add i))), some (Vi (xs[i]?.getD 0)), some (.bool (isH p (xs[i]?.getD 0))), some (.bool (!(isH p (xs[i]?.getD 0))))] [] rfl ⟨by kernel_rfl, of_decide_eq_true (by kernel_rfl), by kernel_rfl, by kernel_rfl, by kernel_rfl⟩ ⟨?_, ?_, ?_, ?_, ?_, ?_, ?_, trivial⟩ ?_
    ·intro ac done u W Sx hR
     have g : Gr w10 W := hR.1
     exact X.vl (X.load rfl (Sx.ev 2 (Vp w.heap.size)) (X.ldN (Try.agg27 _) (Try.siz27 _) (Y.atz (⟨w.heap.size, 0, none⟩) (Y.AtFrom.cons ((hC.gr g).at 0 rfl) (Y.AtFrom.cons ((hC.gr g).at 1 rfl) (Y.AtFrom.cons ((hC.gr g).at 2 rfl) (Y.AtFrom.cons ((hC.gr g).at 3 rfl) (Y.AtFrom.nil _ _ _)))))))) hR.st0
    ·intro ac done u W Sx hR
     exact X.vl (X.move rfl (Sx.ev 1 (.slice (some pd12) xs.length c))) hR.st0
    ·intro ac done u W Sx hR
     exact X.vl (X.move rfl (Sx.ev 6 (Vi i))) hR.st0
    ·intro ac done u W Sx hR
     exact X.val (X.w0 rfl) rfl (X.index rfl (Sx.ev 25 (.slice (some pd12) xs.length c)) (Sx.ev 26 (Vi i)) (X.idx (k := i) Try.underlying34 (Try.siz3 _) (by omega) (by omega) (by rw [Nat.mul_one]))) hR.st0
    ·intro ac done u W Sx hR
     have g : Gr w10 W := hR.1
     exact X.vl (X.load rfl (Sx.ev 27 (.pointer (some (pd12.add i)))) (X.ld1 (Try.agg3 _) ((hC.gr g).at 4 rfl))) hR.st0
    ·intro ac done u W Sx hR
     refine X.call (X.w0 rfl) (X.enter (F := 62) rfl (X.kc (.func (.func 62) #[] #[]) rfl) (X.a2 (Sx.ev 24 (.agg #[.slice ta p.nt tc, .slice ha p.nh hc, .slice ba p.nb bc, .slice la p.nl lc])) (Sx.ev 28 (Vi (xs[i]?.getD 0)))) (enters_of Try.func62 (by kernel_rfl) rfl _)) (isHost_any p ta ha ba la tc hc bc lc (xs[i]?.getD 0) W) ?_
     rintro e W2 ⟨rfl, g2⟩
     exact ⟨_, rfl, X.kn rfl, hR.step g2 rfl⟩
    ·intro ac done u W Sx hR
     exact X.vl (X.notB rfl (Sx.ev 29 (.bool (isH p (xs[i]?.getD 0)))) rfl) hR.st0
    intro ac u w13 hs hd hl ho hR
    have g : Gr w10 w13 := hR.1
    replace F : Fr ac 31 [(1, .slice (some pd12) xs.length c), (2, Vp w.heap.size), (6, Vi i), (30, .bool (!(isH p (xs[i]?.getD 0))))] := X.fr hs hd hl _ (by kernel_rfl)
    clear hs hd hl ho hR
    replace G := G.trans g
    replace hC := hC.gr g
    replace hO1 := hO1.thenGr g
    replace hpt := hpt.gr g
    replace hph := hph.gr g
    replace hpb := hpb.gr g
    replace hpl := hpl.gr g
    replace hxs := hxs.gr g
    clear g
    refine X.thenN ?_
    cases h14 : isH p (xs[i]?.getD 0) with
    | false =>
     try rw [h14] at F
     refine Y.cT F 30 ?_
     refine Y.sk F 4 (Vi 33) ?_;clear F ac;intro ac F
     refine Y.ret ?_
     refine X.blockR (X.thenR (X.thenR (X.blockR (X.thenR ?_))))
     exact Y.ret0 (v := Vi 33) F (Y.r1 F) ⟨by rw [beg_2 (by omega) (.inr (allN_false hi h14))], G⟩
    | true =>
     try rw [h14] at F
     refine Y.cF F 30 ?_
     refine Y.skip ?_
     refine X.blockN (X.thenN ?_)
     refine Y.lg F [(1, .slice (some pd12) xs.length c), (2, Vp w.heap.size), (6, Vi ((i : Int) + 1))] (by
      refine Y.pv F (X.move rfl (F.ev 6 (Vi i))) fun ac F=>?_
      refine Y.pv F (X.binop rfl (F.ev 22 (Vi i)) (X.kc (Vi 1) rfl) (X.addI Try.underlying3 rfl (by omega) (by omega))) fun ac F=>?_
      refine Y.pv F (X.assign rfl (F.ev 23 (Vi ((i : Int) + 1)))) fun ac F=>?_
      exact Y.fin F) ?_;clear F ac;intro ac F
     refine ⟨_, ?_, i + 1, rfl, hO1, by omega, allN_succ hok h14, F.sub _⟩
     omega
  | true =>
   try rw [h9] at F
   have h9p : ((p.nt : Int) < xs.length) := of_decide_eq_true h9
   refine Y.cT F 17 ?_
   refine Y.sk F 4 (Vi 33) ?_;clear F ac;intro ac F
   refine Y.ret ?_
   refine X.thenR ?_
   exact Y.ret0 (v := Vi 33) F (Y.r1 F) ⟨by rw [beg_2 (by omega) (.inl (by omega))], G⟩
 | true =>
  try rw [h8] at F
  have h8p : ¬ (chkE p : Int) = 0 := by simpa using h8
  refine Y.cT F 10 ?_
  refine Y.sg F [(4, Vi (chkE p))] (Y.pv F (X.move rfl (F.ev 5 (Vi (chkE p)))) fun ac F=>Y.pv F (X.assign rfl (F.ev 11 (Vi (chkE p)))) fun ac F=>Y.fin F) ?_;clear F ac;intro ac F
  refine Y.ret ?_
  refine X.thenR ?_
  exact Y.ret0 (v := Vi (chkE p)) F (Y.r1 F) ⟨by rw [show begE p xs = chkE p from if_pos (by omega)], G⟩
set_option maxRecDepth 100000 in
set_option maxHeartbeats 1000000 in
theorem whole_any (p : Pb) (ta ha ba la : Option Addr) (tc hc bc lc : Nat) (a : Option Addr) (c : Nat) (xs : List Int) (w : World) (hP : PbAt w p ta ha ba la tc hc bc lc) (hX : Ints w a xs.length xs) :
  Calls Try.prog 74 #[.agg #[.slice ta p.nt tc, .slice ha p.nh hc, .slice ba p.nb bc, .slice la p.nl lc], .slice a xs.length c] w fun e w' => e = .returned (Vi (whoE p xs)) ∧ Gr w w' := by
 have G := Gr.refl w
 have hpt := hP.t
 have hph := hP.h
 have hpb := hP.b
 have hpl := hP.l
 have hplen := hP.len
 obtain ⟨hn1, hn2, hn3, hn4⟩ := hplen
 have hcp1 := hpt.cap
 have hcp2 := hph.cap
 have hcp3 := hpb.cap
 have hcp4 := hpl.cap
 have hxs := hX
 have hlt := hxs.lt
 refine Y.calls 18 Try.func74 rfl rfl ?_
 intro ac F0
 have F : Fr ac 18 [(0, .agg #[.slice ta p.nt tc, .slice ha p.nh hc, .slice ba p.nb bc, .slice la p.nl lc]), (1, .slice a xs.length c)] := F0.sub _
 clear F0
 refine Y.sl ?_
 have hgs3 : w.heap.size ≤ w.heap.size := G.size
 refine Y.pv F (X.box rfl (F.ev 0 (.agg #[.slice ta p.nt tc, .slice ha p.nh hc, .slice ba p.nb bc, .slice la p.nl lc])) X.bx) ?_;clear F ac;intro ac F
 have hgs5 : w.heap.size ≤ w.heap.size := G.size
 obtain ⟨w6, hw_, g, hb, hbl, hC2⟩ := Y.bxd (RCells.nil w) #[.slice ta p.nt tc, .slice ha p.nh hc, .slice ba p.nb bc, .slice la p.nl lc] 27;rw [hw_];clear hw_
 replace G := G.trans g
 have hC := hC2
 clear hC2
 replace hpt := hpt.gr g
 replace hph := hph.gr g
 replace hpb := hpb.gr g
 replace hpl := hpl.gr g
 replace hxs := hxs.gr g
 have hsz4 := hbl
 clear g hb hbl
 refine Y.pv F (X.assign rfl (X.kc (Vi 0) rfl)) ?_;clear F ac;intro ac F
 refine Y.nt F [(1, .slice a xs.length c), (2, Vp w.heap.size)] ?_;clear F ac;intro ac F
 refine Y.sl ?_
 refine Y.pv2 F (X.load rfl (F.ev 2 (Vp w.heap.size)) (X.ldN (Try.agg27 _) (Try.siz27 _) (Y.atz (⟨w.heap.size, 0, none⟩) (Y.AtFrom.cons (hC.at 0 rfl) (Y.AtFrom.cons (hC.at 1 rfl) (Y.AtFrom.cons (hC.at 2 rfl) (Y.AtFrom.cons (hC.at 3 rfl) (Y.AtFrom.nil _ _ _)))))))) (fun _ F=>X.move rfl (F.ev 1 (.slice a xs.length c))) fun ac F=>Y.pc F 78 (X.a2 (F.ev 6 (.agg #[.slice ta p.nt tc, .slice ha p.nh hc, .slice ba p.nb bc, .slice la p.nl lc])) (F.ev 7 (.slice a xs.length c))) Try.func78 (begin_any p ta ha ba la tc hc bc lc a c xs w6 (hP.gr G) (hX.gr G)) ?_
 clear F ac
 rintro e w7 ⟨rfl, g⟩
 refine ⟨_, rfl, ?_⟩
 intro ac F
 replace G := G.trans g
 replace hC := hC.gr g
 replace hpt := hpt.gr g
 replace hph := hph.gr g
 replace hpb := hpb.gr g
 replace hpl := hpl.gr g
 replace hxs := hxs.gr g
 clear g
 refine Y.pv F (X.assign rfl (F.ev 8 (Vi (begE p xs)))) ?_;clear F ac;intro ac F
 refine Y.nt F [(1, .slice a xs.length c), (2, Vp w.heap.size), (5, Vi (begE p xs))] ?_;clear F ac;intro ac F
 refine Y.seq ?_
 refine Y.sg F [(1, .slice a xs.length c), (2, Vp w.heap.size), (5, Vi (begE p xs)), (10, .bool ((begE p xs : Int) != 0))] (Y.pv F (X.move rfl (F.ev 5 (Vi (begE p xs)))) fun ac F=>Y.pv F (X.binop rfl (F.ev 9 (Vi (begE p xs))) (X.kc (Vi 0) rfl) (X.neqI Try.underlying31 rfl)) fun ac F=>Y.fin F) ?_;clear F ac;intro ac F
 cases h8 : ((begE p xs : Int) != 0) with
 | false =>
  try rw [h8] at F
  have h8p : (begE p xs : Int) = 0 := by simpa using h8
  refine Y.cF F 10 ?_
  refine Y.skip ?_
  refine X.thenN ?_
  refine Y.seq ?_
  refine Y.sg F [(17, .bool (decide ((xs.length : Int) < p.nt)))] (by
   refine Y.pv F (X.move rfl (F.ev 1 (.slice a xs.length c))) fun ac F=>?_
   refine Y.pv F (X.len1 Try.underlying34 rfl (F.ev 12 (.slice a xs.length c))) fun ac F=>?_
   refine Y.pv F (X.field rfl (F.ev 2 (Vp w.heap.size)) (X.fld Try.underlying27 rfl (Try.siz22 _) rfl rfl)) fun ac F=>?_
   refine Y.pv F (X.load rfl (F.ev 14 (Vp w.heap.size)) (X.ld1 (Try.agg22 _) (hC.at 0 rfl))) fun ac F=>?_
   refine Y.pv F (X.len1 Try.underlying22 rfl (F.ev 15 (.slice ta p.nt tc))) fun ac F=>?_
   refine Y.pv F (X.binop rfl (F.ev 13 (Vi xs.length)) (F.ev 16 (Vi p.nt)) (X.lssI Try.underlying3 rfl)) fun ac F=>?_
   exact Y.fin F) ?_;clear F ac;intro ac F
  cases h9 : decide ((xs.length : Int) < p.nt) with
  | false =>
   try rw [h9] at F
   have h9p : ¬ ((xs.length : Int) < p.nt) := of_decide_eq_false h9
   refine Y.cF F 17 ?_
   refine Y.skip ?_
   refine X.thenN ?_
   refine Y.sk F 4 (Vi 0) ?_;clear F ac;intro ac F
   refine Y.ret ?_
   exact Y.ret0 (v := Vi 0) F (Y.r1 F) ⟨by rw [who_3 (by omega) (by omega)], G⟩
  | true =>
   try rw [h9] at F
   have h9p : ((xs.length : Int) < p.nt) := of_decide_eq_true h9
   refine Y.cT F 17 ?_
   refine Y.sk F 4 (Vi 33) ?_;clear F ac;intro ac F
   refine Y.ret ?_
   refine X.thenR ?_
   exact Y.ret0 (v := Vi 33) F (Y.r1 F) ⟨by rw [who_2 (by omega) (by omega)], G⟩
 | true =>
  try rw [h8] at F
  have h8p : ¬ (begE p xs : Int) = 0 := by simpa using h8
  refine Y.cT F 10 ?_
  refine Y.sg F [(4, Vi (begE p xs))] (Y.pv F (X.move rfl (F.ev 5 (Vi (begE p xs)))) fun ac F=>Y.pv F (X.assign rfl (F.ev 11 (Vi (begE p xs)))) fun ac F=>Y.fin F) ?_;clear F ac;intro ac F
  refine Y.ret ?_
  refine X.thenR ?_
  exact Y.ret0 (v := Vi (begE p xs)) F (Y.r1 F) ⟨by rw [who_1 (by omega)], G⟩
set_option maxRecDepth 100000 in
set_option maxHeartbeats 1000000 in
theorem allowed2_any (p : Pb) (ta ha ba la : Option Addr) (tc hc bc lc : Nat) (a : Option Addr) (c : Nat) (xs : List Int) (w : World) (hP : PbAt w p ta ha ba la tc hc bc lc) (hX : Ints w a xs.length xs) :
  Calls Try.prog 34 #[.agg #[.slice ta p.nt tc, .slice ha p.nh hc, .slice ba p.nb bc, .slice la p.nl lc], .slice a xs.length c] w fun e w' => e = .returned (.tuple #[.bool (allowV p xs), Vi (whoE p xs)]) ∧ Gr w w' := by
 have G := Gr.refl w
 have hpt := hP.t
 have hph := hP.h
 have hpb := hP.b
 have hpl := hP.l
 have hplen := hP.len
 obtain ⟨hn1, hn2, hn3, hn4⟩ := hplen
 have hcp1 := hpt.cap
 have hcp2 := hph.cap
 have hcp3 := hpb.cap
 have hcp4 := hpl.cap
 have hxs := hX
 have hlt := hxs.lt
 refine Y.calls 17 Try.func34 rfl rfl ?_
 intro ac F0
 have F : Fr ac 17 [(0, .agg #[.slice ta p.nt tc, .slice ha p.nh hc, .slice ba p.nb bc, .slice la p.nl lc]), (1, .slice a xs.length c)] := F0.sub _
 clear F0
 refine Y.sl ?_
 have hgs3 : w.heap.size ≤ w.heap.size := G.size
 refine Y.pv F (X.box rfl (F.ev 0 (.agg #[.slice ta p.nt tc, .slice ha p.nh hc, .slice ba p.nb bc, .slice la p.nl lc])) X.bx) ?_;clear F ac;intro ac F
 have hgs5 : w.heap.size ≤ w.heap.size := G.size
 obtain ⟨w6, hw_, g, hb, hbl, hC2⟩ := Y.bxd (RCells.nil w) #[.slice ta p.nt tc, .slice ha p.nh hc, .slice ba p.nb bc, .slice la p.nl lc] 27;rw [hw_];clear hw_
 replace G := G.trans g
 have hC := hC2
 clear hC2
 replace hpt := hpt.gr g
 replace hph := hph.gr g
 replace hpb := hpb.gr g
 replace hpl := hpl.gr g
 replace hxs := hxs.gr g
 have hsz4 := hbl
 clear g hb hbl
 refine Y.pv2 F (X.assign rfl (X.kc (.bool false) rfl)) (fun _ F=>X.assign rfl (X.kc (Vi 0) rfl)) ?_;clear F ac;intro ac F
 refine Y.nt F [(1, .slice a xs.length c), (2, Vp w.heap.size)] ?_;clear F ac;intro ac F
 refine Y.sl ?_
 refine Y.pv2 F (X.load rfl (F.ev 2 (Vp w.heap.size)) (X.ldN (Try.agg27 _) (Try.siz27 _) (Y.atz (⟨w.heap.size, 0, none⟩) (Y.AtFrom.cons (hC.at 0 rfl) (Y.AtFrom.cons (hC.at 1 rfl) (Y.AtFrom.cons (hC.at 2 rfl) (Y.AtFrom.cons (hC.at 3 rfl) (Y.AtFrom.nil _ _ _)))))))) (fun _ F=>X.move rfl (F.ev 1 (.slice a xs.length c))) fun ac F=>Y.pc F 74 (X.a2 (F.ev 7 (.agg #[.slice ta p.nt tc, .slice ha p.nh hc, .slice ba p.nb bc, .slice la p.nl lc])) (F.ev 8 (.slice a xs.length c))) Try.func74 (whole_any p ta ha ba la tc hc bc lc a c xs w6 (hP.gr G) (hX.gr G)) ?_
 clear F ac
 rintro e w7 ⟨rfl, g⟩
 refine ⟨_, rfl, ?_⟩
 intro ac F
 replace G := G.trans g
 replace hC := hC.gr g
 replace hpt := hpt.gr g
 replace hph := hph.gr g
 replace hpb := hpb.gr g
 replace hpl := hpl.gr g
 replace hxs := hxs.gr g
 clear g
 refine Y.pv F (X.assign rfl (F.ev 9 (Vi (whoE p xs)))) ?_;clear F ac;intro ac F
 refine Y.nt F [(1, .slice a xs.length c), (2, Vp w.heap.size), (6, Vi (whoE p xs))] ?_;clear F ac;intro ac F
 refine Y.seq ?_
 refine Y.sg F [(1, .slice a xs.length c), (2, Vp w.heap.size), (6, Vi (whoE p xs)), (11, .bool ((whoE p xs : Int) != 0))] (Y.pv F (X.move rfl (F.ev 6 (Vi (whoE p xs)))) fun ac F=>Y.pv F (X.binop rfl (F.ev 10 (Vi (whoE p xs))) (X.kc (Vi 0) rfl) (X.neqI Try.underlying31 rfl)) fun ac F=>Y.fin F) ?_;clear F ac;intro ac F
 cases h8 : ((whoE p xs : Int) != 0) with
 | false =>
  try rw [h8] at F
  have h8p : (whoE p xs : Int) = 0 := by simpa using h8
  have hbg := (who_ok (p := p) (xs := xs) (by omega)).1
  obtain ⟨-, hp, hlen, hx⟩ := beg_ok hbg
  refine Y.cF F 11 ?_
  refine Y.skip ?_
  refine X.thenN ?_
  refine Y.sl ?_
  refine Y.pv2 F (X.load rfl (F.ev 2 (Vp w.heap.size)) (X.ldN (Try.agg27 _) (Try.siz27 _) (Y.atz (⟨w.heap.size, 0, none⟩) (Y.AtFrom.cons (hC.at 0 rfl) (Y.AtFrom.cons (hC.at 1 rfl) (Y.AtFrom.cons (hC.at 2 rfl) (Y.AtFrom.cons (hC.at 3 rfl) (Y.AtFrom.nil _ _ _)))))))) (fun _ F=>X.move rfl (F.ev 1 (.slice a xs.length c))) fun ac F=>Y.pc F 75 (X.a3 (F.ev 13 (.agg #[.slice ta p.nt tc, .slice ha p.nh hc, .slice ba p.nb bc, .slice la p.nl lc])) (F.ev 14 (.slice a xs.length c)) (X.kc (Vi 100) rfl)) Try.func75 (by have hq := hop2_any p ta ha ba la tc hc bc lc a c xs 100 w7 (hP.gr G) (hX.gr G) hp hx hlen (by decide); rw [hund_100] at hq; exact hq) ?_
  clear F ac
  rintro e w9 ⟨rfl, g⟩
  refine ⟨_, rfl, ?_⟩
  intro ac F
  replace G := G.trans g
  replace hC := hC.gr g
  replace hpt := hpt.gr g
  replace hph := hph.gr g
  replace hpb := hpb.gr g
  replace hpl := hpl.gr g
  replace hxs := hxs.gr g
  clear g
  refine Y.pv3 F (X.notB rfl (F.ev 15 (.bool (hopeB p (tim p) xs))) rfl) (fun _ F=>X.assign rfl (F.ev 16 (.bool (!(hopeB p (tim p) xs))))) (fun _ F=>X.assign rfl (X.kc (Vi 0) rfl)) ?_;clear F ac;intro ac F
  refine Y.nt F [(4, .bool (!(hopeB p (tim p) xs))), (5, Vi 0)] ?_;clear F ac;intro ac F
  refine Y.ret ?_
  exact Y.ret0 (v := .tuple #[.bool (!(hopeB p (tim p) xs)), Vi 0]) F (Y.rs2 F rfl (by kernel_rfl) (by kernel_rfl)) ⟨by rw [allow_1 (by omega), (show whoE p xs = 0 by omega)], G⟩
 | true =>
  try rw [h8] at F
  have h8p : ¬ (whoE p xs : Int) = 0 := by simpa using h8
  refine Y.cT F 11 ?_
  refine Y.sg F [(4, .bool false), (5, Vi (whoE p xs))] (Y.pv F (X.move rfl (F.ev 6 (Vi (whoE p xs)))) fun ac F=>Y.pv F (X.assign rfl (X.kc (.bool false) rfl)) fun ac F=>Y.pv F (X.assign rfl (F.ev 12 (Vi (whoE p xs)))) fun ac F=>Y.fin F) ?_;clear F ac;intro ac F
  refine Y.ret ?_
  refine X.thenR ?_
  exact Y.ret0 (v := .tuple #[.bool false, Vi (whoE p xs)]) F (Y.rs2 F rfl (by kernel_rfl) (by kernel_rfl)) ⟨by rw [allow_0 (by omega)], G⟩
set_option maxRecDepth 100000 in
set_option maxHeartbeats 1000000 in
theorem cost2_any (p : Pb) (ta ha ba la : Option Addr) (tc hc bc lc : Nat) (a : Option Addr) (c : Nat) (xs : List Int) (w : World) (hP : PbAt w p ta ha ba la tc hc bc lc) (hX : Ints w a xs.length xs) :
  Calls Try.prog 36 #[.agg #[.slice ta p.nt tc, .slice ha p.nh hc, .slice ba p.nb bc, .slice la p.nl lc], .slice a xs.length c] w fun e w' => e = .returned (.tuple #[Vi (costV p xs), Vi (whoE p xs)]) ∧ Gr w w' := by
 have G := Gr.refl w
 have hpt := hP.t
 have hph := hP.h
 have hpb := hP.b
 have hpl := hP.l
 have hplen := hP.len
 obtain ⟨hn1, hn2, hn3, hn4⟩ := hplen
 have hcp1 := hpt.cap
 have hcp2 := hph.cap
 have hcp3 := hpb.cap
 have hcp4 := hpl.cap
 have hxs := hX
 have hlt := hxs.lt
 refine Y.calls 16 Try.func36 rfl rfl ?_
 intro ac F0
 have F : Fr ac 16 [(0, .agg #[.slice ta p.nt tc, .slice ha p.nh hc, .slice ba p.nb bc, .slice la p.nl lc]), (1, .slice a xs.length c)] := F0.sub _
 clear F0
 refine Y.sl ?_
 have hgs3 : w.heap.size ≤ w.heap.size := G.size
 refine Y.pv F (X.box rfl (F.ev 0 (.agg #[.slice ta p.nt tc, .slice ha p.nh hc, .slice ba p.nb bc, .slice la p.nl lc])) X.bx) ?_;clear F ac;intro ac F
 have hgs5 : w.heap.size ≤ w.heap.size := G.size
 obtain ⟨w6, hw_, g, hb, hbl, hC2⟩ := Y.bxd (RCells.nil w) #[.slice ta p.nt tc, .slice ha p.nh hc, .slice ba p.nb bc, .slice la p.nl lc] 27;rw [hw_];clear hw_
 replace G := G.trans g
 have hC := hC2
 clear hC2
 replace hpt := hpt.gr g
 replace hph := hph.gr g
 replace hpb := hpb.gr g
 replace hpl := hpl.gr g
 replace hxs := hxs.gr g
 have hsz4 := hbl
 clear g hb hbl
 refine Y.pv2 F (X.assign rfl (X.kc (Vi 0) rfl)) (fun _ F=>X.assign rfl (X.kc (Vi 0) rfl)) ?_;clear F ac;intro ac F
 refine Y.nt F [(1, .slice a xs.length c), (2, Vp w.heap.size)] ?_;clear F ac;intro ac F
 refine Y.sl ?_
 refine Y.pv2 F (X.load rfl (F.ev 2 (Vp w.heap.size)) (X.ldN (Try.agg27 _) (Try.siz27 _) (Y.atz (⟨w.heap.size, 0, none⟩) (Y.AtFrom.cons (hC.at 0 rfl) (Y.AtFrom.cons (hC.at 1 rfl) (Y.AtFrom.cons (hC.at 2 rfl) (Y.AtFrom.cons (hC.at 3 rfl) (Y.AtFrom.nil _ _ _)))))))) (fun _ F=>X.move rfl (F.ev 1 (.slice a xs.length c))) fun ac F=>Y.pc F 74 (X.a2 (F.ev 7 (.agg #[.slice ta p.nt tc, .slice ha p.nh hc, .slice ba p.nb bc, .slice la p.nl lc])) (F.ev 8 (.slice a xs.length c))) Try.func74 (whole_any p ta ha ba la tc hc bc lc a c xs w6 (hP.gr G) (hX.gr G)) ?_
 clear F ac
 rintro e w7 ⟨rfl, g⟩
 refine ⟨_, rfl, ?_⟩
 intro ac F
 replace G := G.trans g
 replace hC := hC.gr g
 replace hpt := hpt.gr g
 replace hph := hph.gr g
 replace hpb := hpb.gr g
 replace hpl := hpl.gr g
 replace hxs := hxs.gr g
 clear g
 refine Y.pv F (X.assign rfl (F.ev 9 (Vi (whoE p xs)))) ?_;clear F ac;intro ac F
 refine Y.nt F [(1, .slice a xs.length c), (2, Vp w.heap.size), (6, Vi (whoE p xs))] ?_;clear F ac;intro ac F
 refine Y.seq ?_
 refine Y.sg F [(1, .slice a xs.length c), (2, Vp w.heap.size), (6, Vi (whoE p xs)), (11, .bool ((whoE p xs : Int) != 0))] (Y.pv F (X.move rfl (F.ev 6 (Vi (whoE p xs)))) fun ac F=>Y.pv F (X.binop rfl (F.ev 10 (Vi (whoE p xs))) (X.kc (Vi 0) rfl) (X.neqI Try.underlying31 rfl)) fun ac F=>Y.fin F) ?_;clear F ac;intro ac F
 cases h8 : ((whoE p xs : Int) != 0) with
 | false =>
  try rw [h8] at F
  have h8p : (whoE p xs : Int) = 0 := by simpa using h8
  have hbg := (who_ok (p := p) (xs := xs) (by omega)).1
  obtain ⟨-, hp, hlen, hx⟩ := beg_ok hbg
  refine Y.cF F 11 ?_
  refine Y.skip ?_
  refine X.thenN ?_
  refine Y.sl ?_
  refine Y.pv2 F (X.load rfl (F.ev 2 (Vp w.heap.size)) (X.ldN (Try.agg27 _) (Try.siz27 _) (Y.atz (⟨w.heap.size, 0, none⟩) (Y.AtFrom.cons (hC.at 0 rfl) (Y.AtFrom.cons (hC.at 1 rfl) (Y.AtFrom.cons (hC.at 2 rfl) (Y.AtFrom.cons (hC.at 3 rfl) (Y.AtFrom.nil _ _ _)))))))) (fun _ F=>X.move rfl (F.ev 1 (.slice a xs.length c))) fun ac F=>Y.pc F 77 (X.a2 (F.ev 13 (.agg #[.slice ta p.nt tc, .slice ha p.nh hc, .slice ba p.nb bc, .slice la p.nl lc])) (F.ev 14 (.slice a xs.length c))) Try.func77 (bnd2_any p ta ha ba la tc hc bc lc a c xs w7 (hP.gr G) (hX.gr G) hp hx hlen) ?_
  clear F ac
  rintro e w9 ⟨rfl, g⟩
  refine ⟨_, rfl, ?_⟩
  intro ac F
  replace G := G.trans g
  replace hC := hC.gr g
  replace hpt := hpt.gr g
  replace hph := hph.gr g
  replace hpb := hpb.gr g
  replace hpl := hpl.gr g
  replace hxs := hxs.gr g
  clear g
  refine Y.pv2 F (X.assign rfl (F.ev 15 (Vi (bndV p xs)))) (fun _ F=>X.assign rfl (X.kc (Vi 0) rfl)) ?_;clear F ac;intro ac F
  refine Y.nt F [(4, Vi (bndV p xs)), (5, Vi 0)] ?_;clear F ac;intro ac F
  refine Y.ret ?_
  exact Y.ret0 (v := .tuple #[Vi (bndV p xs), Vi 0]) F (Y.rs2 F rfl (by kernel_rfl) (by kernel_rfl)) ⟨by rw [cost_1 (by omega), (show whoE p xs = 0 by omega)], G⟩
 | true =>
  try rw [h8] at F
  have h8p : ¬ (whoE p xs : Int) = 0 := by simpa using h8
  refine Y.cT F 11 ?_
  refine Y.sg F [(4, Vi 0), (5, Vi (whoE p xs))] (Y.pv F (X.move rfl (F.ev 6 (Vi (whoE p xs)))) fun ac F=>Y.pv F (X.assign rfl (X.kc (Vi 0) rfl)) fun ac F=>Y.pv F (X.assign rfl (F.ev 12 (Vi (whoE p xs)))) fun ac F=>Y.fin F) ?_;clear F ac;intro ac F
  refine Y.ret ?_
  refine X.thenR ?_
  exact Y.ret0 (v := .tuple #[Vi 0, Vi (whoE p xs)]) F (Y.rs2 F rfl (by kernel_rfl) (by kernel_rfl)) ⟨by rw [cost_0 (by omega)], G⟩
end
section
open Go.RowKit
end
section
open Go.RowKit
end
section
open Go.RowKit
end
section
open Go.RowKit
end
section
open Go.RowKit

section
variable {E : List BegE} {plan : List Int} {host mv : Int} {i bn bc : Nat} {ba : Option Addr} {x : BegE}
end
end
section
set_option linter.unusedVariables false
open Go.RowKit
theorem onS_mono {g : Nat → Int} {xs : List Int} {x h : Int} (hg : 0 ≤ g xs.length) : onS g xs h xs.length ≤ onS g (xs ++ [x]) h (xs ++ [x]).length := by
  rw [onS_end]; split <;> omega
/-- what is hopeless stays so -/
theorem hope_mono {p : Pb} (hp : PbOk p) {xs : List Int} {x : Int} (hl : xs.length < p.nt) (h : hopeB p (tim p) xs = true) : hopeB p (tim p) (xs ++ [x]) = true := by
  unfold hopeB at h ⊢
  rw [Bool.not_eq_true'] at h ⊢
  rw [Bool.and_eq_false_iff, Bool.and_eq_false_iff] at h ⊢
  have hm := hp.tm xs.length hl
  have ht := hp.tt xs.length hl
  rcases h with (h | h) | h
  · refine .inl (.inl ?_)
    cases e : allN (fitB p (tim p) (xs ++ [x])) p.nh with
    | false => rfl
    | true =>
      rw [← h]
      refine (allN_iff.2 fun i hi => ?_).symm
      have := allN_iff.1 e i hi
      simp only [fitB, Bool.and_eq_true, decide_eq_true_eq] at this ⊢
      have m1 := onS_mono (g := fun i => p.tv i 1) (xs := xs) (x := x) (h := (i : Int)) hm.1
      have m2 := onS_mono (g := tim p) (xs := xs) (x := x) (h := (i : Int)) ht.1
      omega
  · refine .inl (.inr ?_)
    cases e : allN (lvlB p (xs ++ [x])) (xs ++ [x]).length with
    | false => rfl
    | true =>
      rw [← h]
      refine (allN_iff.2 fun i hi => ?_).symm
      have := allN_iff.1 e i (by simp; omega)
      unfold lvlB at this ⊢
      rwa [xg_app hi] at this
  · refine .inr ?_
    cases e : allN (keptB p (xs ++ [x])) p.nb with
    | false => rfl
    | true =>
      rw [← h]
      refine (allN_iff.2 fun j hj => ?_).symm
      have := allN_iff.1 e j hj
      have ha := hp.ba j hj
      have hb := hp.bt j hj
      have hk := hp.bk j hj
      unfold keptB at this ⊢
      have hl2 : ((xs ++ [x]).length : Int) = xs.length + 1 := by simp
      by_cases c1 : (xs.length : Int) ≤ p.bv j 1
      · rw [if_pos c1]
      · have c1' : ¬ ((xs ++ [x]).length : Int) ≤ p.bv j 1 := by omega
        rw [if_neg c1]
        rw [if_neg c1', xg_app (show (p.bv j 1).toNat < xs.length by omega)] at this
        by_cases c4 : p.bv j 0 = 4
        · rw [if_pos c4] at this ⊢; exact this
        · rw [if_neg c4] at this ⊢
          by_cases c5 : p.bv j 0 = 5
          · rw [if_pos c5] at this ⊢; exact this
          · rw [if_neg c5] at this ⊢
            have hb := hb (by omega)
            by_cases c2 : (xs.length : Int) ≤ p.bv j 2
            · rw [if_pos c2]
            · have c2' : ¬ ((xs ++ [x]).length : Int) ≤ p.bv j 2 := by omega
              rw [if_neg c2]
              rw [if_neg c2', xg_app (show (p.bv j 2).toNat < xs.length by omega)] at this
              exact this
theorem allF_in {p : Pb} (hp : PbOk p) : ∀ (m : Nat) (xs ys : List Int), xs.length + m = p.nt → ys.length = m → HosOk p (xs ++ ys) → hopeB p (tim p) (xs ++ ys) = false → (xs ++ ys) ∈ allF p.nh (hopeB p (tim p)) m xs := by
  intro m
  induction m with
  | zero =>
    intro xs ys h1 h2 hx hh
    have : ys = [] := List.eq_nil_of_length_eq_zero h2
    subst this
    rw [List.append_nil] at hh ⊢
    unfold allF; rw [if_neg (by rw [hh]; decide)]; simp
  | succ m ih =>
    intro xs ys h1 h2 hx hh
    cases ys with
    | nil => simp at h2
    | cons y ys =>
      have e : xs ++ y :: ys = (xs ++ [y]) ++ ys := by simp
      have hxs : hopeB p (tim p) xs = false := by
        have hpre : ∀ (ys xs : List Int), xs.length + ys.length ≤ p.nt → hopeB p (tim p) xs = true → hopeB p (tim p) (xs ++ ys) = true := by
          intro ys
          induction ys with
          | nil => intro xs _ h; simpa using h
          | cons z ys ih2 =>
            intro xs hl h
            rw [show xs ++ z :: ys = (xs ++ [z]) ++ ys by simp]
            exact ih2 (xs ++ [z]) (by simp at hl ⊢; omega) (hope_mono hp (by simp at hl; omega) h)
        cases q : hopeB p (tim p) xs with
        | false => rfl
        | true => rw [hpre (y :: ys) xs (by omega) q] at hh; cases hh
      have hy := hx xs.length (by simp)
      have hxy : xg (xs ++ y :: ys) xs.length = y := by unfold xg; rw [List.getElem?_append_right (Nat.le_refl _)]; simp
      rw [hxy] at hy
      unfold allF
      rw [if_neg (by rw [hxs]; decide)]
      refine flatN_mem.2 ⟨y.toNat, by omega, ?_⟩
      rw [e] at hx hh ⊢
      have ey : ((y.toNat : Nat) : Int) = y := by omega
      rw [ey]
      exact ih (xs ++ [y]) ys (by simp; omega) (by simpa using h2) hx hh
/-- the list has all that are allowed -/
theorem allP_iff {p : Pb} (hp : PbOk p) {x : List Int} : x ∈ allP p ↔ HosOk p x ∧ x.length = p.nt ∧ hopeB p (tim p) x = false :=
  ⟨mem_allP, fun ⟨h1, h2, h3⟩ => by
    have := allF_in hp p.nt [] x (by simp) h2 (by simpa using h1) (by simpa using h3)
    rw [List.nil_append] at this
    exact this⟩
theorem srtK_mem {key : List Int → Int × Int} {l : List (List Int)} {x : List Int} (h : x ∈ l) : (key x, x) ∈ srtK key l := by
  have hm : ∀ (l : List (List Int)) (s : List ((Int × Int) × List Int)), (∀ y ∈ s, y ∈ l.foldl (fun s x => insR s (key x, x)) s) ∧ (x ∈ l → (key x, x) ∈ l.foldl (fun s x => insR s (key x, x)) s) := by
    intro l
    induction l with
    | nil => intro s; exact ⟨fun y hy => hy, fun h => by cases h⟩
    | cons a l ih =>
      intro s
      have hin : ∀ y, y ∈ s ∨ y = (key a, a) → y ∈ insR s (key a, a) := fun y hy => by
        unfold insR insAt
        rw [List.mem_append, List.mem_cons]
        rcases hy with hy | hy
        · rw [← List.take_append_drop (posR s (key a, a).1 s.length) s, List.mem_append] at hy
          rcases hy with hy | hy
          · exact .inl hy
          · exact .inr (.inr hy)
        · exact .inr (.inl hy)
      obtain ⟨h1, h2⟩ := ih (insR s (key a, a))
      refine ⟨fun y hy => h1 y (hin y (.inl hy)), fun hx => ?_⟩
      rcases List.mem_cons.1 hx with rfl | hx
      · exact h1 _ (hin _ (.inr rfl))
      · exact h2 hx
  exact (hm l []).2 h
theorem head_min {α : Type} {l : List ((Int × Int) × α)} (hs : Sorted l) {y z : (Int × Int) × α} (hy : l[0]? = some y) (hz : z ∈ l) : ltK z.1 y.1 = false := by
  obtain ⟨i, hi⟩ := List.getElem?_of_mem hz
  cases i with
  | zero => rw [hi] at hy; injection hy with hy; subst hy; rw [ltK_false]; omega
  | succ i => exact hs.get (Nat.succ_pos i) hy hi
end
section
open Go.RowKit

/-- a problem in memory of the call's own -/
structure PbOwn (w : World) (B : Nat) (p : Pb) (ta ha ba la : Option Addr) (tc hc bc lc : Nat) : Prop where
  t : OwnR w B 74 4 (.slice ta p.nt tc) p.nt (tbL (tvV p) p.nt 4)
  h : OwnR w B 53 6 (.slice ha p.nh hc) p.nh (tbL (hvV p) p.nh 6)
  b : OwnR w B 65 3 (.slice ba p.nb bc) p.nb (tbL (bvV p) p.nb 3)
  l : OwnR w B 84 3 (.slice la p.nl lc) p.nl (tbL (lvV p) p.nl 3)
  s1 : ∀ i, i < p.nt → (p.tn i).size ≤ 9223372036854775807
  s2 : ∀ i, i < p.nh → (p.hn i).size ≤ 9223372036854775807
def SmlP (p : Pb) : Prop := p.nt ≤ 20 ∧ p.nh ≤ 20 ∧ p.nb ≤ 40 ∧ p.nl ≤ 40
theorem PbOwn.at {w : World} {B : Nat} {p : Pb} {ta ha ba la : Option Addr} {tc hc bc lc : Nat} (h : PbOwn w B p ta ha ba la tc hc bc lc) (hz : SmlP p) : PbAt w p ta ha ba la tc hc bc lc := by
  obtain ⟨h1, h2, h3, h4⟩ := hz
  exact ⟨h.t.tb (by omega), h.h.tb (by omega), h.b.tb (by omega), h.l.tb (by omega), h.s1, h.s2⟩
theorem PbOwn.gr {w w' : World} {B : Nat} {p : Pb} {ta ha ba la : Option Addr} {tc hc bc lc : Nat} (h : PbOwn w B p ta ha ba la tc hc bc lc) (g : Gr w w') : PbOwn w' B p ta ha ba la tc hc bc lc := ⟨h.t.gr g, h.h.gr g, h.b.gr g, h.l.gr g, h.s1, h.s2⟩
theorem OwnR.after {w w' : World} {b B e k n c : Nat} {a : Option Addr} {xs : List Value} (h : OwnR w B e k (.slice a n c) n xs) (g : Only (fun x => x = b) w w') (hb : b < B) : OwnR w' B e k (.slice a n c) n xs :=
  h.only g (fun x hx e => by have h1 := (h.ge hx).1; have h2 : x = b := e; omega)
set_option maxRecDepth 100000 in
set_option maxHeartbeats 400000 in
theorem ints_any (a : Option Addr) (c : Nat) (xs : List Int) (w : World) (hX : Ints w a xs.length xs) (hl : xs.length ≤ 100000) :
  Calls Try.prog 33 #[.slice a xs.length c] w fun e w' => ∃ a' c', e = .returned (.slice a' xs.length c') ∧ OwnR w' w.heap.size 3 1 (.slice a' xs.length c') xs.length (xs.map (Value.int .i64)) ∧ Gr w w' := by
 have G := Gr.refl w
 have hxs := hX
 refine Y.calls 6 Try.func33 rfl rfl ?_
 intro ac F0
 have F : Fr ac 6 [(0, .slice a xs.length c)] := F0.sub _
 clear F0
 refine Y.sg F [(0, .slice a xs.length c)] (Y.pv F (X.assign rfl (X.kc (.slice none 0 0) rfl)) fun ac F=>Y.fin F) ?_;clear F ac;intro ac F
 refine Y.sl ?_
 refine Y.pv F (X.bs rfl X.bs0 (Try.bs34_0 _)) ?_;clear F ac;intro ac F
 have g := Gr.alloc w (.cells #[] 3)
 have hO := ownR_new (k := 1) (heap_alloc_new w (.cells #[] 3)) (Nat.le_refl _)
 generalize w.alloc (.cells #[] 3) = w3 at *
 replace G := G.trans g
 replace hxs := hxs.gr g
 clear g
 refine Y.pv F (X.move rfl (F.ev 0 (.slice a xs.length c))) ?_;clear F ac;intro ac F
 obtain ⟨ra, rc, w4, hrun, hO2, g⟩ := run_copyN (P := Try.prog) (ts := 34) Try.underlying34 Try.info3 rfl (by decide) hO (ints_tb hxs).2 (by rw [List.length_map, Nat.mul_one]) (ints_tb hxs).1 (ints_all xs) (by omega) (by decide) G.size
 refine Y.pv F (Y.apz rfl (F.ev 3 (.slice (some ⟨w.heap.size, 0, none⟩) 0 0)) (F.ev 4 (.slice a xs.length c)) hrun) ?_
 clear F ac hrun
 intro ac F
 replace G := G.trans g
 replace hxs := hxs.gr g
 refine Y.pv F (X.assign rfl (F.ev 5 (.slice ra xs.length rc))) ?_;clear F ac;intro ac F
 refine Y.nt F [(2, .slice ra xs.length rc)] ?_;clear F ac;intro ac F
 refine Y.ret ?_
 exact Y.ret0 (v := .slice ra xs.length rc) F (Y.r1 F) ⟨ra, rc, rfl, hO2, G⟩
set_option maxRecDepth 100000 in
set_option maxHeartbeats 2000000 in
theorem copy_any (p : Pb) (ta ha ba la : Option Addr) (tc hc bc lc : Nat) (w : World) (hP : PbAt w p ta ha ba la tc hc bc lc) (hz : SmlP p) :
  Calls Try.prog 17 #[.agg #[.slice ta p.nt tc, .slice ha p.nh hc, .slice ba p.nb bc, .slice la p.nl lc]] w fun e w' => ∃ ta ha ba la tc hc bc lc, e = .returned (.agg #[.slice ta p.nt tc, .slice ha p.nh hc, .slice ba p.nb bc, .slice la p.nl lc]) ∧ PbOwn w' w.heap.size p ta ha ba la tc hc bc lc ∧ Gr w w' := by
 have G := Gr.refl w
 have hpt := hP.t
 have hph := hP.h
 have hpb := hP.b
 have hpl := hP.l
 have hplen := hP.len
 obtain ⟨hn1, hn2, hn3, hn4⟩ := hplen
 have hcp1 := hpt.cap
 have hcp2 := hph.cap
 have hcp3 := hpb.cap
 have hcp4 := hpl.cap
 obtain ⟨hz1, hz2, hz3, hz4⟩ := hz
 refine Y.calls 20 Try.func17 rfl rfl ?_
 intro ac F0
 have F : Fr ac 20 [(0, .agg #[.slice ta p.nt tc, .slice ha p.nh hc, .slice ba p.nb bc, .slice la p.nl lc])] := F0.sub _
 clear F0
 refine Y.sl ?_
 have hgs3 : w.heap.size ≤ w.heap.size := G.size
 refine Y.pv F (X.box rfl (F.ev 0 (.agg #[.slice ta p.nt tc, .slice ha p.nh hc, .slice ba p.nb bc, .slice la p.nl lc])) X.bx) ?_;clear F ac;intro ac F
 have hgs5 : w.heap.size ≤ w.heap.size := G.size
 obtain ⟨w6, hw_, g, hb, hbl, hC2⟩ := Y.bxd (RCells.nil w) #[.slice ta p.nt tc, .slice ha p.nh hc, .slice ba p.nb bc, .slice la p.nl lc] 27;rw [hw_];clear hw_
 replace G := G.trans g
 have hC := hC2
 clear hC2
 replace hpt := hpt.gr g
 replace hph := hph.gr g
 replace hpb := hpb.gr g
 replace hpl := hpl.gr g
 have hsz4 := hbl
 clear g hb hbl
 refine Y.pv F (Y.al rfl (Try.new27 _)) ?_;clear F ac;intro ac F
 have g := Gr.alloc w6 (.cells #[.slice none 0 0, .slice none 0 0, .slice none 0 0, .slice none 0 0] 27)
 have hb := heap_alloc_new w6 (.cells #[.slice none 0 0, .slice none 0 0, .slice none 0 0, .slice none 0 0] 27)
 have hszw7 : w6.heap.size < (w6.alloc (.cells #[.slice none 0 0, .slice none 0 0, .slice none 0 0, .slice none 0 0] 27)).heap.size := by simp
 have hgsw7 : w.heap.size ≤ w6.heap.size := G.size
 generalize w6.alloc (.cells #[.slice none 0 0, .slice none 0 0, .slice none 0 0, .slice none 0 0] 27) = w7 at *
 replace G := G.trans g
 replace hC := hC.gr g
 replace hpt := hpt.gr g
 replace hph := hph.gr g
 replace hpb := hpb.gr g
 replace hpl := hpl.gr g
 have hVw7 : OwnP w7 w6.heap.size 4 (VL [.slice none 0 0, .slice none 0 0, .slice none 0 0, .slice none 0 0]) := ownP_bx (vs := [.slice none 0 0, .slice none 0 0, .slice none 0 0, .slice none 0 0]) hb
 clear g hb
 refine Y.nt F [(1, Vp w.heap.size), (2, Vp w6.heap.size)] ?_;clear F ac;intro ac F
 refine Y.seq ?_
 have hgL : w.heap.size ≤ w7.heap.size := G.size
 have hbB := hVw7.lt
 have hbw : w.heap.size ≤ w6.heap.size := by first | exact Nat.le_refl _ | omega
 obtain ⟨TT, hTT⟩ : ∃ T : (Nat → Value) → World → Prop, T = fun _ W => ∃ t0 c0 t1 c1 t2 c2 t3 c3, OwnP W w6.heap.size 4 (VL [.slice t0 p.nt c0, .slice t1 p.nh c1, .slice t2 p.nb c2, .slice t3 p.nl c3]) ∧ Only (fun x => x = w6.heap.size) w7 W ∧ OwnR W w7.heap.size 74 4 (.slice t0 p.nt c0) p.nt (tbL (tvV p) p.nt 4) ∧ OwnR W w7.heap.size 53 6 (.slice t1 p.nh c1) p.nh (tbL (hvV p) p.nh 6) ∧ OwnR W w7.heap.size 65 3 (.slice t2 p.nb c2) p.nb (tbL (bvV p) p.nb 3) ∧ OwnR W w7.heap.size 84 3 (.slice t3 p.nl c3) p.nl (tbL (lvV p) p.nl 3) := ⟨_, rfl⟩
 refine Y.regionS F [none, some (Vp w.heap.size), some (.slice ta p.nt tc), none, none, some (.pointer (some ⟨w.heap.size, 1, none⟩)), some (.slice ha p.nh hc), none, none, some (.pointer (some ⟨w.heap.size, 2, none⟩)), some (.slice ba p.nb bc), none, none, some (.pointer (some ⟨w.heap.size, 3, none⟩)), some (.slice la p.nl lc), none, none, none] [(0, Y.MP.row0 w7.heap.size 74 4), (3, Y.MP.row w7.heap.size 74 4 p.nt (tbL (tvV p) p.nt 4)), (4, Y.MP.row0 w7.heap.size 53 6), (7, Y.MP.row w7.heap.size 53 6 p.nh (tbL (hvV p) p.nh 6)), (8, Y.MP.row0 w7.heap.size 65 3), (11, Y.MP.row w7.heap.size 65 3 p.nb (tbL (bvV p) p.nb 3)), (12, Y.MP.row0 w7.heap.size 84 3), (15, Y.MP.row w7.heap.size 84 3 p.nl (tbL (lvV p) p.nl 3)), (16, Y.MP.pbv w7.heap.size p)] 17 TT rfl ⟨by kernel_rfl, of_decide_eq_true (by kernel_rfl), by kernel_rfl, by kernel_rfl, by kernel_rfl⟩ (of_decide_eq_true (by kernel_rfl)) ⟨?_, ?_, ?_, ?_, ?_, ?_, ?_, ?_, ?_, ?_, ?_, ?_, ?_, ?_, ?_, ?_, ?_, ?_, trivial⟩ ?_
 ·intro ac done u W Sx hT
  have hs := Sx.no 17 (by kernel_rfl)
  have hR := hT.1 hs
  have g : Gr w7 W := hR.1
  exact X.valN (X.w0 rfl) rfl (X.bs rfl X.bs0 (Try.bs22_0 _)) (Y.RT.of hs rfl (hR.new (q := Y.MP.row0 w7.heap.size 74 4) (Gr.alloc _ _) rfl ⟨_, rfl, ownR_new (heap_alloc_new _ _) g.size⟩))
 ·intro ac done u W Sx hT
  have hs := Sx.no 17 (by kernel_rfl)
  have hR := hT.1 hs
  have g : Gr w7 W := hR.1
  exact X.vl (X.field rfl (Sx.ev 1 (Vp w.heap.size)) (X.fld Try.underlying27 rfl (Try.siz22 _) rfl rfl)) (Y.RT.of hs rfl hR.st0)
 ·intro ac done u W Sx hT
  have hs := Sx.no 17 (by kernel_rfl)
  have hR := hT.1 hs
  have g : Gr w7 W := hR.1
  exact X.vl (X.load rfl (Sx.ev 4 (Vp w.heap.size)) (X.ld1 (Try.agg22 _) ((hC.gr g).at 0 rfl))) (Y.RT.of hs rfl hR.st0)
 ·intro ac done u W Sx hT
  have hs := Sx.no 17 (by kernel_rfl)
  have hR := hT.1 hs
  have g : Gr w7 W := hR.1
  obtain ⟨ra0, e0, hI0⟩ := hR.get (i := 0) (Y.MP.row0 w7.heap.size 74 4) rfl (Sx.an 0 (by kernel_rfl))
  obtain ⟨a9, c9, W2, hrun, hO2, g2⟩ := run_copyN (P := Try.prog) (ts := 22) Try.underlying22 Try.info74 rfl (by decide) hI0 (hpt.gr g).none0 tbL_len ((hpt.gr g).src (by decide)) (tv_one p _) (by omega) (by decide) g.size
  exact X.valN (X.w0 rfl) rfl (Y.apz rfl ((Sx.own 0 3 rfl).trans e0) (Sx.ev 5 (.slice ta p.nt tc)) hrun) (Y.RT.of hs rfl (hR.new (q := Y.MP.row w7.heap.size 74 4 p.nt (tbL (tvV p) p.nt 4)) g2 rfl ⟨_, _, rfl, hO2⟩))
 ·intro ac done u W Sx hT
  have hs := Sx.no 17 (by kernel_rfl)
  have hR := hT.1 hs
  have g : Gr w7 W := hR.1
  exact X.valN (X.w0 rfl) rfl (X.bs rfl X.bs0 (Try.bs23_0 _)) (Y.RT.of hs rfl (hR.new (q := Y.MP.row0 w7.heap.size 53 6) (Gr.alloc _ _) rfl ⟨_, rfl, ownR_new (heap_alloc_new _ _) g.size⟩))
 ·intro ac done u W Sx hT
  have hs := Sx.no 17 (by kernel_rfl)
  have hR := hT.1 hs
  have g : Gr w7 W := hR.1
  exact X.vl (X.field rfl (Sx.ev 1 (Vp w.heap.size)) (X.fld Try.underlying27 rfl (Try.siz23 _) rfl rfl)) (Y.RT.of hs rfl hR.st0)
 ·intro ac done u W Sx hT
  have hs := Sx.no 17 (by kernel_rfl)
  have hR := hT.1 hs
  have g : Gr w7 W := hR.1
  exact X.vl (X.load rfl (Sx.ev 8 (.pointer (some ⟨w.heap.size, 1, none⟩))) (X.ld1 (Try.agg23 _) ((hC.gr g).at 1 rfl))) (Y.RT.of hs rfl hR.st0)
 ·intro ac done u W Sx hT
  have hs := Sx.no 17 (by kernel_rfl)
  have hR := hT.1 hs
  have g : Gr w7 W := hR.1
  obtain ⟨ra4, e4, hI4⟩ := hR.get (i := 4) (Y.MP.row0 w7.heap.size 53 6) rfl (Sx.an 4 (by kernel_rfl))
  obtain ⟨a9, c9, W2, hrun, hO2, g2⟩ := run_copyN (P := Try.prog) (ts := 23) Try.underlying23 Try.info53 rfl (by decide) hI4 (hph.gr g).none0 tbL_len ((hph.gr g).src (by decide)) (hv_one p _) (by omega) (by decide) g.size
  exact X.valN (X.w0 rfl) rfl (Y.apz rfl ((Sx.own 4 7 rfl).trans e4) (Sx.ev 9 (.slice ha p.nh hc)) hrun) (Y.RT.of hs rfl (hR.new (q := Y.MP.row w7.heap.size 53 6 p.nh (tbL (hvV p) p.nh 6)) g2 rfl ⟨_, _, rfl, hO2⟩))
 ·intro ac done u W Sx hT
  have hs := Sx.no 17 (by kernel_rfl)
  have hR := hT.1 hs
  have g : Gr w7 W := hR.1
  exact X.valN (X.w0 rfl) rfl (X.bs rfl X.bs0 (Try.bs24_0 _)) (Y.RT.of hs rfl (hR.new (q := Y.MP.row0 w7.heap.size 65 3) (Gr.alloc _ _) rfl ⟨_, rfl, ownR_new (heap_alloc_new _ _) g.size⟩))
 ·intro ac done u W Sx hT
  have hs := Sx.no 17 (by kernel_rfl)
  have hR := hT.1 hs
  have g : Gr w7 W := hR.1
  exact X.vl (X.field rfl (Sx.ev 1 (Vp w.heap.size)) (X.fld Try.underlying27 rfl (Try.siz24 _) rfl rfl)) (Y.RT.of hs rfl hR.st0)
 ·intro ac done u W Sx hT
  have hs := Sx.no 17 (by kernel_rfl)
  have hR := hT.1 hs
  have g : Gr w7 W := hR.1
  exact X.vl (X.load rfl (Sx.ev 12 (.pointer (some ⟨w.heap.size, 2, none⟩))) (X.ld1 (Try.agg24 _) ((hC.gr g).at 2 rfl))) (Y.RT.of hs rfl hR.st0)
 ·intro ac done u W Sx hT
  have hs := Sx.no 17 (by kernel_rfl)
  have hR := hT.1 hs
  have g : Gr w7 W := hR.1
  obtain ⟨ra8, e8, hI8⟩ := hR.get (i := 8) (Y.MP.row0 w7.heap.size 65 3) rfl (Sx.an 8 (by kernel_rfl))
  obtain ⟨a9, c9, W2, hrun, hO2, g2⟩ := run_copyN (P := Try.prog) (ts := 24) Try.underlying24 Try.info65 rfl (by decide) hI8 (hpb.gr g).none0 tbL_len ((hpb.gr g).src (by decide)) (bv_one p _) (by omega) (by decide) g.size
  exact X.valN (X.w0 rfl) rfl (Y.apz rfl ((Sx.own 8 11 rfl).trans e8) (Sx.ev 13 (.slice ba p.nb bc)) hrun) (Y.RT.of hs rfl (hR.new (q := Y.MP.row w7.heap.size 65 3 p.nb (tbL (bvV p) p.nb 3)) g2 rfl ⟨_, _, rfl, hO2⟩))
 ·intro ac done u W Sx hT
  have hs := Sx.no 17 (by kernel_rfl)
  have hR := hT.1 hs
  have g : Gr w7 W := hR.1
  exact X.valN (X.w0 rfl) rfl (X.bs rfl X.bs0 (Try.bs25_0 _)) (Y.RT.of hs rfl (hR.new (q := Y.MP.row0 w7.heap.size 84 3) (Gr.alloc _ _) rfl ⟨_, rfl, ownR_new (heap_alloc_new _ _) g.size⟩))
 ·intro ac done u W Sx hT
  have hs := Sx.no 17 (by kernel_rfl)
  have hR := hT.1 hs
  have g : Gr w7 W := hR.1
  exact X.vl (X.field rfl (Sx.ev 1 (Vp w.heap.size)) (X.fld Try.underlying27 rfl (Try.siz25 _) rfl rfl)) (Y.RT.of hs rfl hR.st0)
 ·intro ac done u W Sx hT
  have hs := Sx.no 17 (by kernel_rfl)
  have hR := hT.1 hs
  have g : Gr w7 W := hR.1
  exact X.vl (X.load rfl (Sx.ev 16 (.pointer (some ⟨w.heap.size, 3, none⟩))) (X.ld1 (Try.agg25 _) ((hC.gr g).at 3 rfl))) (Y.RT.of hs rfl hR.st0)
 ·intro ac done u W Sx hT
  have hs := Sx.no 17 (by kernel_rfl)
  have hR := hT.1 hs
  have g : Gr w7 W := hR.1
  obtain ⟨ra12, e12, hI12⟩ := hR.get (i := 12) (Y.MP.row0 w7.heap.size 84 3) rfl (Sx.an 12 (by kernel_rfl))
  obtain ⟨a9, c9, W2, hrun, hO2, g2⟩ := run_copyN (P := Try.prog) (ts := 25) Try.underlying25 Try.info84 rfl (by decide) hI12 (hpl.gr g).none0 tbL_len ((hpl.gr g).src (by decide)) (lv_one p _) (by omega) (by decide) g.size
  exact X.valN (X.w0 rfl) rfl (Y.apz rfl ((Sx.own 12 15 rfl).trans e12) (Sx.ev 17 (.slice la p.nl lc)) hrun) (Y.RT.of hs rfl (hR.new (q := Y.MP.row w7.heap.size 84 3 p.nl (tbL (lvV p) p.nl 3)) g2 rfl ⟨_, _, rfl, hO2⟩))
 ·intro ac done u W Sx hT
  have hs := Sx.no 17 (by kernel_rfl)
  have hR := hT.1 hs
  have g : Gr w7 W := hR.1
  obtain ⟨ra3, rc3, e3, hI3⟩ := hR.get (i := 3) (Y.MP.row w7.heap.size 74 4 p.nt (tbL (tvV p) p.nt 4)) rfl (Sx.an 3 (by kernel_rfl))
  obtain ⟨ra7, rc7, e7, hI7⟩ := hR.get (i := 7) (Y.MP.row w7.heap.size 53 6 p.nh (tbL (hvV p) p.nh 6)) rfl (Sx.an 7 (by kernel_rfl))
  obtain ⟨ra11, rc11, e11, hI11⟩ := hR.get (i := 11) (Y.MP.row w7.heap.size 65 3 p.nb (tbL (bvV p) p.nb 3)) rfl (Sx.an 11 (by kernel_rfl))
  obtain ⟨ra15, rc15, e15, hI15⟩ := hR.get (i := 15) (Y.MP.row w7.heap.size 84 3 p.nl (tbL (lvV p) p.nl 3)) rfl (Sx.an 15 (by kernel_rfl))
  exact X.valN (X.w0 rfl) rfl (Y.bd rfl (X.b4 ((Sx.own 3 6 rfl).trans e3) ((Sx.own 7 10 rfl).trans e7) ((Sx.own 11 14 rfl).trans e11) ((Sx.own 15 18 rfl).trans e15)) (Try.bd27f _ _ _ _ _ _ _ _ _ _ _ _ _)) (Y.RT.of hs rfl (hR.new (q := Y.MP.pbv w7.heap.size p) (Gr.refl _) rfl ⟨_, _, _, _, _, _, _, _, rfl, hI3, hI7, hI11, hI15⟩))
 ·intro ac done u W Sx hT
  have hR := hT.1 Sx.nd
  have g : Gr w7 W := hR.1
  obtain ⟨t0, c0, t1, c1, t2, c2, t3, c3, e16, hO0, hO1, hO2, hO3⟩ := hR.get (i := 16) (Y.MP.pbv w7.heap.size p) rfl (Sx.an 16 (by kernel_rfl))
  obtain ⟨W2, hrun, hV2, hon⟩ := ownP_store (P := Try.prog) (vs := [.slice t0 p.nt c0, .slice t1 p.nh c1, .slice t2 p.nb c2, .slice t3 p.nl c3]) (t := 27) (hVw7.gr g) rfl (fun W => Try.siz27 W) rfl
  exact X.unit (X.w0 rfl) rfl (X.store rfl (Sx.ev 2 (Vp w6.heap.size)) ((Sx.own 16 19 rfl).trans e16) hrun) (Y.RT.fin (by subst hTT; exact ⟨t0, c0, t1, c1, t2, c2, t3, c3, hV2, (g.only _).trans hon, hO0.after hon hbB, hO1.after hon hbB, hO2.after hon hbB, hO3.after hon hbB⟩))
 rintro ac u w8 hs hd hl_ ho hT
 rw [hTT] at hT
 obtain ⟨t0, c0, t1, c1, t2, c2, t3, c3, hV2, hon, hO0, hO1, hO2, hO3⟩ := hT
 clear hTT
 replace F : Fr ac 20 [(2, Vp w6.heap.size)] := X.fr hs hd hl_ _ (by kernel_rfl)
 clear hs hd hl_ ho
 replace G := Y.Only.up G hon (by omega)
 refine X.thenN ?_
 refine Y.ret ?_
 exact Y.ret0 (v := .agg #[.slice t0 p.nt c0, .slice t1 p.nh c1, .slice t2 p.nb c2, .slice t3 p.nl c3]) F (Y.rcl F rfl (by kernel_rfl) (ownP_load hV2 (Try.agg27 _) (Try.siz27 _) rfl)) ⟨t0, t1, t2, t3, c0, c1, c2, c3, rfl, ⟨hO0.lower hgL, hO1.lower hgL, hO2.lower hgL, hO3.lower hgL, hP.s1, hP.s2⟩, G⟩
end
section
set_option linter.unusedVariables false
open Go.RowKit
section
variable {p : Pb} {b m0 m1 m2 : Int}
theorem srtK_from {key : List Int → Int × Int} {l : List (List Int)} {y : (Int × Int) × List Int} (h : y ∈ srtK key l) : ∃ x ∈ l, y = (key x, x) := by
  have hm : ∀ (l m : List (List Int)) (s : List ((Int × Int) × List Int)), (∀ y ∈ s, ∃ x ∈ m, y = (key x, x)) → ∀ y ∈ l.foldl (fun s x => insR s (key x, x)) s, ∃ x ∈ m ++ l, y = (key x, x) := by
    intro l
    induction l with
    | nil => intro m s h y hy; rw [List.append_nil]; exact h y hy
    | cons a l ih =>
      intro m s h y hy
      have := ih (m ++ [a]) (insR s (key a, a)) (fun z hz => by
        unfold insR insAt at hz
        rcases List.mem_append.1 hz with h1 | h1
        · obtain ⟨x, hx, e⟩ := h z (List.mem_of_mem_take h1); exact ⟨x, List.mem_append.2 (.inl hx), e⟩
        · rcases List.mem_cons.1 h1 with h1 | h1
          · exact ⟨a, by simp, h1⟩
          · obtain ⟨x, hx, e⟩ := h z (List.mem_of_mem_drop h1); exact ⟨x, List.mem_append.2 (.inl hx), e⟩) y hy
      simpa using this
  obtain ⟨x, hx, e⟩ := hm l [] [] (fun y hy => by simp at hy) y h
  exact ⟨x, by simpa using hx, e⟩
/-- what the best plan answers: its parts -/
theorem best_opt (h : chkE p = 0) (k : (bestR p).2.2 = 0) : HosOk p (bestR p).1 ∧ (bestR p).1.length = p.nt ∧ hopeB p (tim p) (bestR p).1 = false ∧ (bestR p).2.1 = bndV p (bestR p).1 ∧ ∀ x ∈ allP p, bndV p (bestR p).1 ≤ bndV p x := by
  cases f : (firR p).2.2 with
  | false => rw [best_no h f] at k; cases k
  | true =>
    rw [best_yes h f]
    unfold firR at f ⊢
    cases hs : srtK (keyC p) (allP p) with
    | nil => rw [hs] at f; cases f
    | cons y t =>
      have hm : ∀ x ∈ allP p, ltK (keyC p x) y.1 = false := fun x hx => by
        have := head_min (z := (keyC p x, x)) (srtK_sorted (keyC p) (allP p)) (y := y) (by rw [hs]; rfl) (srtK_mem hx)
        exact this
      have hy : ∃ x ∈ allP p, y = (keyC p x, x) := by
        have : y ∈ srtK (keyC p) (allP p) := by rw [hs]; simp
        exact srtK_from this
      obtain ⟨x, hx, rfl⟩ := hy
      obtain ⟨a1, a2, a3⟩ := mem_allP hx
      refine ⟨a1, a2, a3, rfl, fun z hz => ?_⟩
      have := hm z hz
      simp only [keyC_lt, decide_eq_false_iff_not] at this
      show bndV p x ≤ bndV p z
      omega
theorem best_some (h : chkE p = 0) {x : List Int} (hx : x ∈ allP p) : (bestR p).2.2 = 0 := by
  cases f : (firR p).2.2 with
  | true => rw [best_yes h f]
  | false =>
    unfold firR at f
    cases hs : srtK (keyC p) (allP p) with
    | cons y t => rw [hs] at f; cases f
    | nil => have := srtK_len (keyC p) (allP p); rw [hs] at this; have h0 := List.eq_nil_of_length_eq_zero this.symm; rw [h0] at hx; simp at hx
end
end
section
set_option linter.unusedVariables false
open Go.RowKit
def antR (a b : List Int) : Prop := ¬ a <+: b ∧ ¬ b <+: a
def antiB (L : List (List Int)) : Bool := allN (fun i => allN (fun k => decide (k = i) || !(L[i]?.getD []).isPrefixOf (L[k]?.getD [])) L.length) L.length
def adjB (S : List (List Int)) : Bool := allN (fun i => !(S[i]?.getD []).isPrefixOf (S[i + 1]?.getD [])) (S.length - 1)
def sumP (nh nt : Nat) (L : List (List Int)) : Nat := (L.map fun x => nh ^ (nt - x.length)).sum
def covB (nh nt : Nat) (L : List (List Int)) : Bool := if nh = 0 ∧ 0 < nt then true else antiB L && decide (sumP nh nt L = nh ^ nt)
theorem gtD {L : List (List Int)} {i : Nat} (h : i < L.length) : L[i]?.getD [] = L[i] := by rw [List.getElem?_eq_getElem h]; rfl
theorem pfx_false {a b : List Int} : (!a.isPrefixOf b) = true ↔ ¬ a <+: b := by
  rw [Bool.not_eq_true', ← List.isPrefixOf_iff_prefix]
  cases a.isPrefixOf b <;> simp
theorem anti_iff {L : List (List Int)} : antiB L = true ↔ L.Pairwise antR := by
  unfold antiB
  rw [allN_iff, List.pairwise_iff_getElem]
  constructor
  · intro h i j hi hj hij
    have h1 := allN_iff.1 (h i hi) j hj
    have h2 := allN_iff.1 (h j hj) i hi
    rw [decide_eq_false (show ¬ j = i by omega), Bool.false_or, pfx_false, gtD hi, gtD hj] at h1
    rw [decide_eq_false (show ¬ i = j by omega), Bool.false_or, pfx_false, gtD hi, gtD hj] at h2
    exact ⟨h1, h2⟩
  · intro h i hi
    refine allN_iff.2 fun k hk => ?_
    by_cases e : k = i
    · rw [decide_eq_true e]; rfl
    · rw [decide_eq_false e, Bool.false_or, pfx_false, gtD hi, gtD hk]
      by_cases e2 : i < k
      · exact (h i k hi hk e2).1
      · exact (h k i hk hi (by omega)).2
theorem cmpI_v (x y : Int) : (x < y ∧ cmpI x y = -1) ∨ (x = y ∧ cmpI x y = 0) ∨ (y < x ∧ cmpI x y = 1) := by
  unfold cmpI
  split
  · left; omega
  · split <;> omega
/-- what lies between a row and one that begins with it begins with it -/
theorem pfx_mid : ∀ (a b c : List Int), a <+: c → cmpL a b ≤ 0 → cmpL b c ≤ 0 → a <+: b := by
  intro a
  induction a with
  | nil => intro b c _ _ _; exact List.nil_prefix
  | cons x a ih =>
    intro b c h h1 h2
    cases c with
    | nil => simp at h
    | cons y c =>
      rw [List.cons_prefix_cons] at h
      obtain ⟨rfl, h⟩ := h
      cases b with
      | nil => simp [cmpL] at h1
      | cons z b =>
        unfold cmpL at h1 h2
        rcases cmpI_v x z with ⟨k1, e1⟩ | ⟨k1, e1⟩ | ⟨k1, e1⟩
        · rcases cmpI_v z x with ⟨k2, e2⟩ | ⟨k2, e2⟩ | ⟨k2, e2⟩
          · omega
          · omega
          · rw [e2] at h2; simp at h2
        · subst k1
          rw [e1] at h1 h2
          simp only [if_true] at h1 h2
          rw [List.cons_prefix_cons]
          exact ⟨rfl, ih b c h h1 h2⟩
        · rw [e1] at h1; simp at h1
theorem pfx_eq : ∀ (a b : List Int), a <+: b → cmpL b a ≤ 0 → b = a := by
  intro a
  induction a with
  | nil =>
    intro b _ h
    cases b with
    | nil => rfl
    | cons y b => simp [cmpL] at h
  | cons x a ih =>
    intro b h h1
    cases b with
    | nil => simp at h
    | cons y b =>
      rw [List.cons_prefix_cons] at h
      obtain ⟨rfl, h⟩ := h
      unfold cmpL at h1
      have e : cmpI x x = 0 := by unfold cmpI; simp
      rw [e] at h1
      simp only [if_true] at h1
      rw [ih b h h1]
/-- in a sorted list the neighbours tell -/
theorem adj_iff {S : List (List Int)} (hs : ∀ i j, i < j → j < S.length → cmpL (S[i]?.getD []) (S[j]?.getD []) ≤ 0) : adjB S = true ↔ S.Pairwise antR := by
  unfold adjB
  rw [allN_iff, List.pairwise_iff_getElem]
  constructor
  · intro h i j hi hj hij
    have key : ¬ S[i] <+: S[j] := fun hp => by
      have h1 := h i (by omega)
      rw [pfx_false, gtD hi, gtD (show i + 1 < S.length by omega)] at h1
      by_cases e : j = i + 1
      · subst e; exact h1 hp
      · have a1 := hs i (i + 1) (by omega) (by omega)
        have a2 := hs (i + 1) j (by omega) hj
        rw [gtD hi, gtD (show i + 1 < S.length by omega)] at a1
        rw [gtD hj, gtD (show i + 1 < S.length by omega)] at a2
        exact h1 (pfx_mid _ _ _ hp a1 a2)
    refine ⟨key, fun hp => ?_⟩
    have a1 := hs i j hij hj
    rw [gtD hi, gtD hj] at a1
    have := pfx_eq _ _ hp a1
    rw [this] at key
    exact key (List.prefix_refl _)
  · intro h i hi
    rw [pfx_false, gtD (show i < S.length by omega), gtD (show i + 1 < S.length by omega)]
    exact (h i (i + 1) (by omega) (by omega) (by omega)).1
theorem antR_symm {a b : List Int} (h : antR a b) : antR b a := ⟨h.2, h.1⟩
theorem adj_anti {S L : List (List Int)} (hp : S.Perm L) (hs : ∀ i j, i < j → j < S.length → cmpL (S[i]?.getD []) (S[j]?.getD []) ≤ 0) : adjB S = antiB L := by
  have h1 := adj_iff hs
  have h2 := anti_iff (L := L)
  have h3 : S.Pairwise antR ↔ L.Pairwise antR := hp.pairwise_iff (fun h => antR_symm h)
  cases e : adjB S <;> cases e2 : antiB L
  · rfl
  · exact absurd (h1.2 (h3.2 (h2.1 e2))) (by rw [e]; decide)
  · exact absurd (h2.2 (h3.1 (h1.1 e))) (by rw [e2]; decide)
  · rfl
/-- how many plans the leaves behind a beginning have -/
def cntX (nh nt : Nat) (xs : List Int) : List (List Int) → Nat
  | [] => 0
  | l :: L => (if xs <+: l then nh ^ (nt - l.length) else 0) + cntX nh nt xs L
theorem cnt_nil {nh nt : Nat} {L : List (List Int)} : cntX nh nt [] L = sumP nh nt L := by
  induction L with
  | nil => rfl
  | cons l L ih => simp only [cntX, List.nil_prefix, if_true, ih, sumP, List.map_cons, List.sum_cons]
theorem cnt_none {nh nt : Nat} {xs : List Int} {L : List (List Int)} (h : ∀ l ∈ L, ¬ xs <+: l) : cntX nh nt xs L = 0 := by
  induction L with
  | nil => rfl
  | cons l L ih => simp only [cntX, if_neg (h l (by simp)), ih (fun l hl => h l (by simp [hl]))]
theorem cnt_self {nh nt : Nat} {xs : List Int} {L : List (List Int)} (hL : L.Pairwise antR) (h : xs ∈ L) : cntX nh nt xs L = nh ^ (nt - xs.length) := by
  induction L with
  | nil => cases h
  | cons l L ih =>
    rw [List.pairwise_cons] at hL
    rcases List.mem_cons.1 h with rfl | h
    · simp only [cntX, List.prefix_refl, if_true, cnt_none (fun k hk => (hL.1 k hk).1), Nat.add_zero]
    · have := (hL.1 _ h).2
      simp only [cntX, if_neg this, ih hL.2 h, Nat.zero_add]
def sumN (f : Nat → Nat) : Nat → Nat
  | 0 => 0
  | k + 1 => sumN f k + f k
theorem sumN_add {f g : Nat → Nat} {n : Nat} : sumN (fun k => f k + g k) n = sumN f n + sumN g n := by
  induction n with
  | zero => rfl
  | succ n ih => simp only [sumN, ih]; omega
theorem sumN_le {f : Nat → Nat} {b : Nat} : ∀ {n : Nat}, (∀ k, k < n → f k ≤ b) → sumN f n ≤ n * b := by
  intro n
  induction n with
  | zero => intro _; simp [sumN]
  | succ n ih =>
    intro h
    have h1 := ih (fun k hk => h k (by omega))
    have h2 := h n (by omega)
    simp only [sumN, Nat.add_mul]; omega
theorem sumN_full {f : Nat → Nat} {b : Nat} : ∀ {n : Nat}, (∀ k, k < n → f k ≤ b) → sumN f n = n * b → ∀ k, k < n → f k = b := by
  intro n
  induction n with
  | zero => intro _ _ k hk; omega
  | succ n ih =>
    intro h e k hk
    have h1 := sumN_le (f := f) (b := b) (n := n) (fun k hk => h k (by omega))
    have h2 := h n (by omega)
    simp only [sumN, Nat.add_mul, Nat.one_mul] at e
    by_cases e2 : k = n
    · subst e2; omega
    · exact ih (fun k hk => h k (by omega)) (by omega) k (by omega)
theorem sumN_zero {n : Nat} : sumN (fun _ => 0) n = 0 := by
  induction n with
  | zero => rfl
  | succ n ih => simp only [sumN, ih]
theorem sumN_one {n x : Nat} {c : Int} (h : 0 ≤ c ∧ c < n) : sumN (fun k => if (k : Int) = c then x else 0) n = x := by
  induction n with
  | zero => omega
  | succ n ih =>
    simp only [sumN]
    by_cases e : (n : Int) = c
    · rw [if_pos e]
      have : sumN (fun k => if (k : Int) = c then x else 0) n = sumN (fun _ => 0) n := by
        have hk : ∀ m, m ≤ n → sumN (fun k => if (k : Int) = c then x else 0) m = sumN (fun _ => 0) m := by
          intro m
          induction m with
          | zero => intro _; rfl
          | succ m ihm => intro hm; simp only [sumN, ihm (by omega)]; rw [if_neg (by omega)]
        exact hk n (Nat.le_refl _)
      rw [this, sumN_zero]; omega
    · rw [if_neg e, ih (by omega)]; rfl
def HosL (nh : Nat) (xs : List Int) : Prop := ∀ x ∈ xs, 0 ≤ x ∧ x < nh
theorem pfx_snoc {xs l : List Int} {h : Int} : xs ++ [h] <+: l ↔ ∃ t, l = xs ++ h :: t := by
  constructor
  · rintro ⟨t, rfl⟩; exact ⟨t, by simp⟩
  · rintro ⟨t, rfl⟩; exact ⟨t, by simp⟩
theorem cnt_split {nh nt : Nat} {xs : List Int} {L : List (List Int)} (hx : xs ∉ L) (hL : ∀ l ∈ L, HosL nh l) : cntX nh nt xs L = sumN (fun h => cntX nh nt (xs ++ [(h : Int)]) L) nh := by
  induction L with
  | nil => simp only [cntX, sumN_zero]
  | cons l L ih =>
    simp only [cntX]
    rw [sumN_add, ← ih (fun h => hx (by simp [h])) (fun l hl => hL l (by simp [hl]))]
    congr 1
    by_cases hp : xs <+: l
    · rw [if_pos hp]
      obtain ⟨t, rfl⟩ := hp
      cases t with
      | nil => exact absurd (by simp) hx
      | cons c t =>
        have hc := hL (xs ++ c :: t) (by simp) c (by simp)
        have : (fun h : Nat => if xs ++ [(h : Int)] <+: xs ++ c :: t then nh ^ (nt - (xs ++ c :: t).length) else 0) = fun h : Nat => if (h : Int) = c then nh ^ (nt - (xs ++ c :: t).length) else 0 := by
          funext h
          by_cases e : (h : Int) = c
          · rw [if_pos e, if_pos (pfx_snoc.2 ⟨t, by rw [e]⟩)]
          · rw [if_neg e, if_neg (fun k => by
              obtain ⟨t2, e2⟩ := pfx_snoc.1 k
              have := List.append_cancel_left e2
              injection this with h1 _
              exact e h1.symm)]
        rw [this, sumN_one hc]
    · rw [if_neg hp]
      have : (fun h : Nat => if xs ++ [(h : Int)] <+: l then nh ^ (nt - l.length) else 0) = fun _ => 0 := by
        funext h
        rw [if_neg (fun k => hp ((List.prefix_append _ _).trans k))]
      rw [this, sumN_zero]
/-- leaves that have as many plans as there are cover all -/
theorem cov_all {nh nt : Nat} {L : List (List Int)} (hA : L.Pairwise antR) (hL : ∀ l ∈ L, HosL nh l ∧ l.length ≤ nt) : ∀ (m : Nat) (xs : List Int), xs.length + m = nt →
    cntX nh nt xs L ≤ nh ^ m ∧ (cntX nh nt xs L = nh ^ m → ∀ ys, ys.length = m → HosL nh ys → ∃ l ∈ L, l <+: xs ++ ys) := by
  intro m
  induction m with
  | zero =>
    intro xs hm
    by_cases hx : xs ∈ L
    · rw [cnt_self hA hx, show nt - xs.length = 0 by omega]
      exact ⟨Nat.le_refl _, fun _ ys _ _ => ⟨xs, hx, List.prefix_append _ _⟩⟩
    · have : cntX nh nt xs L = 0 := cnt_none fun l hl ⟨t, e⟩ => by
        have h2 := (hL l hl).2
        rw [← e] at h2
        have : t = [] := List.eq_nil_of_length_eq_zero (by simp at h2; omega)
        subst this
        rw [List.append_nil] at e
        exact hx (e ▸ hl)
      rw [this]
      exact ⟨Nat.zero_le _, fun h => by simp at h⟩
  | succ m ih =>
    intro xs hm
    by_cases hx : xs ∈ L
    · rw [cnt_self hA hx, show nt - xs.length = m + 1 by omega]
      exact ⟨Nat.le_refl _, fun _ ys _ _ => ⟨xs, hx, List.prefix_append _ _⟩⟩
    · rw [cnt_split hx (fun l hl => (hL l hl).1)]
      have h1 : ∀ k, k < nh → cntX nh nt (xs ++ [(k : Int)]) L ≤ nh ^ m := fun k _ => (ih (xs ++ [(k : Int)]) (by simp; omega)).1
      refine ⟨by rw [Nat.pow_succ, Nat.mul_comm]; exact sumN_le h1, fun e ys hy hh => ?_⟩
      rw [Nat.pow_succ, Nat.mul_comm] at e
      have h2 := sumN_full h1 e
      cases ys with
      | nil => simp at hy
      | cons y ys =>
        have hy0 := hh y (by simp)
        have ey : ((y.toNat : Nat) : Int) = y := by omega
        have h3 := h2 y.toNat (by omega)
        obtain ⟨l, hl, hp⟩ := (ih (xs ++ [(y.toNat : Int)]) (by simp; omega)).2 h3 ys (by simpa using hy) (fun x hx => hh x (by simp [hx]))
        refine ⟨l, hl, ?_⟩
        rw [ey] at hp
        simpa using hp
/-- a leaf is right -/
def lfB (p : Pb) (cost : Int) (x : List Int × Int) : Bool := decide (x.1.length ≤ p.nt) && hosB p x.1 && (decide (x.2 = 1) && hopeB p (tim p) x.1 || decide (x.2 = 2) && decide (cost ≤ bndV p x.1))
/-- the answer to leaves -/
def pvsB (p : Pb) (cost : Int) (L : List (List Int × Int)) : Bool := L.all (lfB p cost) && covB p.nh p.nt (L.map (·.1))
theorem hosL_iff {p : Pb} {xs : List Int} : HosOk p xs ↔ HosL p.nh xs := by
  constructor
  · intro h x hx
    obtain ⟨i, hi, e⟩ := List.mem_iff_getElem.1 hx
    have := h i hi
    unfold xg at this
    rw [List.getElem?_eq_getElem hi] at this
    rw [← e]; exact this
  · intro h i hi
    unfold xg
    rw [List.getElem?_eq_getElem hi]
    exact h _ (List.getElem_mem hi)
theorem hope_pre {p : Pb} (hp : PbOk p) : ∀ (ys xs : List Int), xs.length + ys.length ≤ p.nt → hopeB p (tim p) xs = true → hopeB p (tim p) (xs ++ ys) = true := by
  intro ys
  induction ys with
  | nil => intro xs _ h; simpa using h
  | cons z ys ih2 =>
    intro xs hl h
    rw [show xs ++ z :: ys = (xs ++ [z]) ++ ys by simp]
    exact ih2 (xs ++ [z]) (by simp at hl ⊢; omega) (hope_mono hp (by simp at hl; omega) h)
theorem bnd_pre {p : Pb} (hp : PbOk p) : ∀ (ys xs : List Int), bndV p xs ≤ bndV p (xs ++ ys) := by
  intro ys
  induction ys with
  | nil => intro xs; rw [List.append_nil]; exact Int.le_refl _
  | cons z ys ih =>
    intro xs
    rw [show xs ++ z :: ys = (xs ++ [z]) ++ ys by simp]
    exact Int.le_trans (bnd_mono hp) (ih _)
/-- **ACCEPTED LEAVES HOLD**: no allowed plan costs less than they say. -/
theorem pvs_sound {p : Pb} (hp : PbOk p) {cost : Int} {L : List (List Int × Int)} (h : pvsB p cost L = true) {xs : List Int} (hx : xs ∈ allP p) : cost ≤ bndV p xs := by
  obtain ⟨h1, h2, h3⟩ := mem_allP hx
  unfold pvsB covB at h
  rw [Bool.and_eq_true, List.all_eq_true] at h
  obtain ⟨ha, hc⟩ := h
  by_cases h0 : p.nh = 0 ∧ 0 < p.nt
  · have := h1 0 (by omega)
    omega
  · rw [if_neg h0, Bool.and_eq_true, decide_eq_true_eq] at hc
    have hlf : ∀ l ∈ L, (HosL p.nh l.1 ∧ l.1.length ≤ p.nt) ∧ (hopeB p (tim p) l.1 = true ∨ cost ≤ bndV p l.1) := fun l hl => by
      have := ha l hl
      unfold lfB at this
      rw [Bool.and_eq_true, Bool.and_eq_true, decide_eq_true_eq] at this
      refine ⟨⟨hosL_iff.1 (hosB_iff.1 this.1.2), this.1.1⟩, ?_⟩
      have h4 := this.2
      rw [Bool.or_eq_true, Bool.and_eq_true, Bool.and_eq_true, decide_eq_true_eq, decide_eq_true_eq, decide_eq_true_eq] at h4
      exact h4.imp (fun h => h.2) (fun h => h.2)
    have hk := (cov_all (nh := p.nh) (nt := p.nt) (L := L.map (·.1)) (anti_iff.1 hc.1) (fun l hl => by
      obtain ⟨x, hx, rfl⟩ := List.mem_map.1 hl
      exact (hlf x hx).1) p.nt [] (by simp)).2 (by rw [cnt_nil]; exact hc.2) xs h2 (hosL_iff.1 h1)
    obtain ⟨l, hl, hpre⟩ := hk
    obtain ⟨y, hy, rfl⟩ := List.mem_map.1 hl
    obtain ⟨⟨k1, k2⟩, k3⟩ := hlf y hy
    rw [List.nil_append] at hpre
    obtain ⟨t, rfl⟩ := hpre
    rcases k3 with k3 | k3
    · have := hope_pre hp t y.1 (by simp at h2; omega) k3
      rw [h3] at this; cases this
    · exact Int.le_trans k3 (bnd_pre hp t y.1)
theorem flat_pair {α : Type} {R : α → α → Prop} {f : Nat → List α} : ∀ {n : Nat}, (∀ k, k < n → (f k).Pairwise R) → (∀ i j, i < j → j < n → ∀ x ∈ f i, ∀ y ∈ f j, R x y) → (flatN f n).Pairwise R := by
  intro n
  induction n with
  | zero => intro _ _; exact List.Pairwise.nil
  | succ n ih =>
    intro h1 h2
    simp only [flatN]
    rw [List.pairwise_append]
    refine ⟨ih (fun k hk => h1 k (by omega)) (fun i j hij hj => h2 i j hij (by omega)), h1 n (by omega), fun x hx y hy => ?_⟩
    obtain ⟨k, hk, hx⟩ := flatN_mem.1 hx
    exact h2 k n hk (by omega) x hx y hy
theorem sum_app {nh nt : Nat} {A B : List (List Int)} : sumP nh nt (A ++ B) = sumP nh nt A + sumP nh nt B := by simp [sumP]
theorem flat_sum {nh nt c : Nat} {f : Nat → List (List Int × Int)} : ∀ {n : Nat}, (∀ k, k < n → sumP nh nt ((f k).map (·.1)) = c) → sumP nh nt ((flatN f n).map (·.1)) = n * c := by
  intro n
  induction n with
  | zero => intro _; simp [flatN, sumP]
  | succ n ih =>
    intro h
    simp only [flatN]
    rw [List.map_append, sum_app, ih (fun k hk => h k (by omega)), h n (by omega), Nat.add_mul, Nat.one_mul]
/-- the leaves of a search that finds no plan cover all -/
theorem lvs_cov {nh nt : Nat} {hope dear : List Int → Bool} (hd : ∀ xs, xs.length = nt → HosL nh xs → hope xs = true ∨ dear xs = true) : ∀ (m : Nat) (xs : List Int), xs.length + m = nt → HosL nh xs →
    (∀ l ∈ lvsF nh hope dear m xs, xs <+: l.1 ∧ HosL nh l.1 ∧ l.1.length ≤ nt ∧ (l.2 = 1 ∧ hope l.1 = true ∨ l.2 = 2 ∧ dear l.1 = true)) ∧ ((lvsF nh hope dear m xs).Pairwise fun a b => antR a.1 b.1) ∧ sumP nh nt ((lvsF nh hope dear m xs).map (·.1)) = nh ^ m := by
  intro m
  induction m with
  | zero =>
    intro xs hm hx
    have hl : xs.length = nt := by omega
    cases h : hope xs with
    | true =>
      rw [lvs_h h]
      exact ⟨fun l hl => by simp at hl; subst hl; exact ⟨List.prefix_refl _, hx, by simp only; omega, .inl ⟨rfl, h⟩⟩, by simp, by simp [sumP, hl]⟩
    | false =>
      have k := (hd xs hl hx).resolve_left (by rw [h]; decide)
      rw [lvs_d h k]
      exact ⟨fun l hl => by simp at hl; subst hl; exact ⟨List.prefix_refl _, hx, by simp only; omega, .inr ⟨rfl, k⟩⟩, by simp, by simp [sumP, hl]⟩
  | succ m ih =>
    intro xs hm hx
    cases h : hope xs with
    | true =>
      rw [lvs_h h]
      exact ⟨fun l hl => by simp at hl; subst hl; exact ⟨List.prefix_refl _, hx, by simp only; omega, .inl ⟨rfl, h⟩⟩, by simp, by simp [sumP, show nt - xs.length = m + 1 by omega]⟩
    | false =>
      cases k : dear xs with
      | true =>
        rw [lvs_d h k]
        exact ⟨fun l hl => by simp at hl; subst hl; exact ⟨List.prefix_refl _, hx, by simp only; omega, .inr ⟨rfl, k⟩⟩, by simp, by simp [sumP, show nt - xs.length = m + 1 by omega]⟩
      | false =>
        rw [lvs_n h k]
        have hi : ∀ k, k < nh → HosL nh (xs ++ [(k : Int)]) := fun k hk x hx2 => by
          rcases List.mem_append.1 hx2 with h | h
          · exact hx x h
          · simp at h; subst h; omega
        have ihk := fun k (hk : k < nh) => ih (xs ++ [(k : Int)]) (by simp; omega) (hi k hk)
        refine ⟨fun l hl => ?_, flat_pair (fun k hk => (ihk k hk).2.1) (fun i j hij hj x hx y hy => ?_), ?_⟩
        · obtain ⟨k, hk, hl⟩ := flatN_mem.1 hl
          obtain ⟨h1, h2⟩ := (ihk k hk).1 l hl
          exact ⟨(List.prefix_append _ _).trans h1, h2⟩
        · obtain ⟨a, ea⟩ := pfx_snoc.1 ((ihk i (by omega)).1 x hx).1
          obtain ⟨b, eb⟩ := pfx_snoc.1 ((ihk j hj).1 y hy).1
          rw [ea, eb]
          refine ⟨fun hp => ?_, fun hp => ?_⟩
          · rw [List.prefix_append_right_inj, List.cons_prefix_cons] at hp; omega
          · rw [List.prefix_append_right_inj, List.cons_prefix_cons] at hp; omega
        · rw [flat_sum (fun k hk => (ihk k hk).2.2), Nat.pow_succ, Nat.mul_comm]
/-- **THE PROOF IS ACCEPTED.** -/
theorem pvs_own {p : Pb} (hc : chkE p = 0) (hb : (bestR p).2.2 = 0) : pvsB p (bestR p).2.1 (prvL p) = true := by
  have hp := chk_ok hc
  obtain ⟨_, _, _, h4, h5⟩ := best_opt hc hb
  have hcov := lvs_cov (nh := p.nh) (nt := p.nt) (hope := hopeB p (tim p)) (dear := dearP p) (fun xs hl hx => by
    cases h : hopeB p (tim p) xs with
    | true => exact .inl rfl
    | false =>
      refine .inr ?_
      have := h5 xs ((allP_iff hp).2 ⟨hosL_iff.2 hx, hl, h⟩)
      unfold dearP
      rw [hb, h4]
      simpa using this) p.nt [] (by simp) (fun x hx => by cases hx)
  obtain ⟨h1, h2, h3⟩ := hcov
  rw [prv_1 hc]
  unfold pvsB
  rw [Bool.and_eq_true, List.all_eq_true]
  refine ⟨fun l hl => ?_, ?_⟩
  · obtain ⟨_, k1, k2, k3⟩ := h1 l hl
    unfold lfB
    rw [Bool.and_eq_true, Bool.and_eq_true, decide_eq_true_eq, Bool.or_eq_true, Bool.and_eq_true, Bool.and_eq_true, decide_eq_true_eq, decide_eq_true_eq, decide_eq_true_eq]
    refine ⟨⟨k2, hosB_iff.2 (hosL_iff.2 k1)⟩, k3.imp (fun h => h) (fun h => ⟨h.1, ?_⟩)⟩
    have := h.2
    unfold dearP at this
    rw [Bool.and_eq_true, decide_eq_true_eq, decide_eq_true_eq] at this
    exact this.2
  · unfold covB
    split
    · rfl
    · rw [Bool.and_eq_true, decide_eq_true_eq]
      exact ⟨anti_iff.2 (List.pairwise_map.2 h2), h3⟩
end
end Go.Proofs.Ytodedneanlekdaa
