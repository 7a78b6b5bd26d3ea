/- Several texts of this claim in one file. (1) Contracts: far, Large, SameInts. (2) Contracts: ints, Copy, Same. (3) Contract: the law about Check. (4) Contract: the law about Best. (5) Sorting by insertion into new rows: regions that make a row of three parts. Nothing of the program is proved here. (6) Counting the allowed plans. Nothing of the program is proved here. (7) The plan that differs the least. Nothing of the program is proved here. (8) Contracts: Contains, Repair$1, differ. (9) Contract: sorted. (10) Contracts: the reference's List, Count. (11) Contract: the reference's Repair. (12) Allowed plans are those of the list; one that does not use the host stays. Nothing of the program is proved here. (13) An easier problem: a bond less, larger hosts. Nothing of the program is proved here. (14) How much longer all tasks may take. Nothing of the program is proved here. (15) The easier problem in memory: bonds moved up, hosts turned in place. Nothing of the program is proved here. -/
import Derived.Test.YtodedneanlekdaaBd10
import Derived.Test.YtodedneanlekdaaBd11
import Derived.Test.YtodedneanlekdaaBd5
import Derived.Test.YtodedneanlekdaaBd7
namespace Go.Proofs.Ytodedneanlekdaa
set_option linter.unusedSimpArgs false
set_option linter.unusedVariables false
section
open Go.RowKit

set_option maxRecDepth 100000 in
set_option maxHeartbeats 1000000 in
theorem far_any (p : Pb) (ta ha ba la : Option Addr) (tc hc bc lc : Nat) (w : World) (hP : PbAt w p ta ha ba la tc hc bc lc) :
  Calls Try.prog 15 #[.agg #[.slice ta p.nt tc, .slice ha p.nh hc, .slice ba p.nb bc, .slice la p.nl lc]] w fun e w' => e = .returned (.bool (farB p)) ∧ Gr w w' := by
 have G := Gr.refl w
 have hpt := hP.t
 have hph := hP.h
 have hpb := hP.b
 have hpl := hP.l
 have hplen := hP.len
 obtain ⟨hn1, hn2, hn3, hn4⟩ := hplen
 have hcp1 := hpt.cap
 have hcp2 := hph.cap
 have hcp3 := hpb.cap
 have hcp4 := hpl.cap
 refine Y.calls 57 Try.func15 rfl rfl ?_
 intro ac F0
 have F : Fr ac 57 [(0, .agg #[.slice ta p.nt tc, .slice ha p.nh hc, .slice ba p.nb bc, .slice la p.nl lc])] := F0.sub _
 clear F0
 refine Y.sl ?_
 have hgs3 : w.heap.size ≤ w.heap.size := G.size
 refine Y.pv F (X.box rfl (F.ev 0 (.agg #[.slice ta p.nt tc, .slice ha p.nh hc, .slice ba p.nb bc, .slice la p.nl lc])) X.bx) ?_;clear F ac;intro ac F
 have hgs5 : w.heap.size ≤ w.heap.size := G.size
 obtain ⟨w6, hw_, g, hb, hbl, hC2⟩ := Y.bxd (RCells.nil w) #[.slice ta p.nt tc, .slice ha p.nh hc, .slice ba p.nb bc, .slice la p.nl lc] 27;rw [hw_];clear hw_
 replace G := G.trans g
 have hC := hC2
 clear hC2
 replace hpt := hpt.gr g
 replace hph := hph.gr g
 replace hpb := hpb.gr g
 replace hpl := hpl.gr g
 have hsz4 := hbl
 clear g hb hbl
 refine Y.pv F (X.assign rfl (X.kc (.bool false) rfl)) ?_;clear F ac;intro ac F
 refine Y.nt F [(1, Vp w.heap.size)] ?_;clear F ac;intro ac F
 refine Y.seq ?_
 refine Y.sl ?_
 refine Y.pv4 F (X.field rfl (F.ev 1 (Vp w.heap.size)) (X.fld Try.underlying27 rfl (Try.siz22 _) rfl rfl)) (fun _ F=>X.load rfl (F.ev 5 (Vp w.heap.size)) (X.ld1 (Try.agg22 _) (hC.at 0 rfl))) (fun _ F=>X.len1 Try.underlying22 rfl (F.ev 6 (.slice ta p.nt tc))) (fun _ F=>X.binop rfl (F.ev 7 (Vi p.nt)) (X.kc (Vi 20) rfl) (X.gtrI Try.underlying3 rfl)) ?_;clear F ac;intro ac F
 refine Y.pv F (X.move rfl (F.ev 8 (.bool (decide ((20 : Int) < p.nt))))) ?_;clear F ac;intro ac F
 cases h7 : decide ((20 : Int) < p.nt) with
 | false =>
  try rw [h7] at F
  have h7p : ¬ ((20 : Int) < p.nt) := of_decide_eq_false h7
  refine Y.pg F 4 9 false (X.field rfl (F.ev 1 (Vp w.heap.size)) (X.fld Try.underlying27 rfl (Try.siz23 _) rfl rfl)) ?_;clear F ac;intro ac F
  refine Y.pg F 4 9 false (X.load rfl (F.ev 10 (.pointer (some ⟨w.heap.size, 1, none⟩))) (X.ld1 (Try.agg23 _) (hC.at 1 rfl))) ?_;clear F ac;intro ac F
  refine Y.pg F 4 9 false (X.len1 Try.underlying23 rfl (F.ev 11 (.slice ha p.nh hc))) ?_;clear F ac;intro ac F
  refine Y.pg F 4 9 false (X.binop rfl (F.ev 12 (Vi p.nh)) (X.kc (Vi 20) rfl) (X.gtrI Try.underlying3 rfl)) ?_;clear F ac;intro ac F
  refine Y.pv2 F (X.pickF rfl (F.ev 9 (.bool false)) (F.ev 13 (.bool (decide ((20 : Int) < p.nh))))) (fun _ F=>X.move rfl (F.ev 14 (.bool (decide ((20 : Int) < p.nh))))) ?_;clear F ac;intro ac F
  cases h8 : decide ((20 : Int) < p.nh) with
  | false =>
   try rw [h8] at F
   have h8p : ¬ ((20 : Int) < p.nh) := of_decide_eq_false h8
   refine Y.pg F 10 15 false (X.field rfl (F.ev 1 (Vp w.heap.size)) (X.fld Try.underlying27 rfl (Try.siz24 _) rfl rfl)) ?_;clear F ac;intro ac F
   refine Y.pg F 10 15 false (X.load rfl (F.ev 16 (.pointer (some ⟨w.heap.size, 2, none⟩))) (X.ld1 (Try.agg24 _) (hC.at 2 rfl))) ?_;clear F ac;intro ac F
   refine Y.pg F 10 15 false (X.len1 Try.underlying24 rfl (F.ev 17 (.slice ba p.nb bc))) ?_;clear F ac;intro ac F
   refine Y.pg F 10 15 false (X.binop rfl (F.ev 18 (Vi p.nb)) (X.kc (Vi 40) rfl) (X.gtrI Try.underlying3 rfl)) ?_;clear F ac;intro ac F
   refine Y.pv2 F (X.pickF rfl (F.ev 15 (.bool false)) (F.ev 19 (.bool (decide ((40 : Int) < p.nb))))) (fun _ F=>X.move rfl (F.ev 20 (.bool (decide ((40 : Int) < p.nb))))) ?_;clear F ac;intro ac F
   cases h9 : decide ((40 : Int) < p.nb) with
   | false =>
    try rw [h9] at F
    have h9p : ¬ ((40 : Int) < p.nb) := of_decide_eq_false h9
    refine Y.pg F 16 21 false (X.field rfl (F.ev 1 (Vp w.heap.size)) (X.fld Try.underlying27 rfl (Try.siz25 _) rfl rfl)) ?_;clear F ac;intro ac F
    refine Y.pg F 16 21 false (X.load rfl (F.ev 22 (.pointer (some ⟨w.heap.size, 3, none⟩))) (X.ld1 (Try.agg25 _) (hC.at 3 rfl))) ?_;clear F ac;intro ac F
    refine Y.pg F 16 21 false (X.len1 Try.underlying25 rfl (F.ev 23 (.slice la p.nl lc))) ?_;clear F ac;intro ac F
    refine Y.pg F 16 21 false (X.binop rfl (F.ev 24 (Vi p.nl)) (X.kc (Vi 40) rfl) (X.gtrI Try.underlying3 rfl)) ?_;clear F ac;intro ac F
    refine Y.pv F (X.pickF rfl (F.ev 21 (.bool false)) (F.ev 25 (.bool (decide ((40 : Int) < p.nl))))) ?_;clear F ac;intro ac F
    refine Y.nt F [(1, Vp w.heap.size), (26, .bool (decide ((40 : Int) < p.nl)))] ?_;clear F ac;intro ac F
    cases h10 : decide ((40 : Int) < p.nl) with
    | false =>
     try rw [h10] at F
     have h10p : ¬ ((40 : Int) < p.nl) := of_decide_eq_false h10
     refine Y.condF (F.ev 26 (.bool false)) ?_
     refine Y.skip ?_
     refine X.thenN ?_
     refine Y.seq ?_
     refine Y.sg F [(1, Vp w.heap.size), (3, Vi 0)] (Y.pv F (X.assign rfl (X.kc (Vi 0) rfl)) fun ac F=>Y.fin F) ?_;clear F ac;intro ac F
     refine Y.block ?_
     refine Y.loop (fun me_ ac wr => ∃ (i : Nat), me_ = p.nt - i ∧ Only (fun b => False) w6 wr ∧ i ≤ p.nt ∧ allN (fun i => decide ((p.tn i).size ≤ 100)) i = true ∧ Fr ac 57 [(1, Vp w.heap.size), (3, Vi i)]) _ ⟨0, rfl, Only.refl _ _, Nat.zero_le _, rfl, F.sub _⟩ ?_
     have hptB1 := hpt
     have hphB1 := hph
     have hpbB1 := hpb
     have hplB1 := hpl
     have GB1 := G
     have hCB1 := hC
     clear F ac
     intro me_ ac w11 hI
     obtain ⟨i, rfl, hO1, h0i, hoki, F⟩ := hI
     replace G := GB1.trans (hO1.gr (fun _ _ h => h))
     replace hpt := (hP.t).gr G
     replace hph := (hP.h).gr G
     replace hpb := (hP.b).gr G
     replace hpl := (hP.l).gr G
     replace hC := (RCells.cons (hO1.cell (hCB1.at 0 rfl) (fun h => h)) (RCells.cons (hO1.cell (hCB1.at 1 rfl) (fun h => h)) (RCells.cons (hO1.cell (hCB1.at 2 rfl) (fun h => h)) (RCells.cons (hO1.cell (hCB1.at 3 rfl) (fun h => h)) (RCells.nil _)))))
     refine Y.seq ?_
     refine Y.sg F [(1, Vp w.heap.size), (3, Vi i), (31, .bool (decide ((i : Int) < p.nt)))] (by
      refine Y.pv F (X.move rfl (F.ev 3 (Vi i))) fun ac F=>?_
      refine Y.pv F (X.field rfl (F.ev 1 (Vp w.heap.size)) (X.fld Try.underlying27 rfl (Try.siz22 _) rfl rfl)) fun ac F=>?_
      refine Y.pv F (X.load rfl (F.ev 28 (Vp w.heap.size)) (X.ld1 (Try.agg22 _) (hC.at 0 rfl))) fun ac F=>?_
      refine Y.pv F (X.len1 Try.underlying22 rfl (F.ev 29 (.slice ta p.nt tc))) fun ac F=>?_
      refine Y.pv F (X.binop rfl (F.ev 27 (Vi i)) (F.ev 30 (Vi p.nt)) (X.lssI Try.underlying3 rfl)) fun ac F=>?_
      exact Y.fin F) ?_;clear F ac;intro ac F
     cases h12 : decide ((i : Int) < p.nt) with
     | false =>
      try rw [h12] at F
      have h12p : ¬ ((i : Int) < p.nt) := of_decide_eq_false h12
      obtain rfl : i = p.nt := by omega
      refine Y.condF (F.ev 31 (.bool false)) ?_
      refine Y.exit ?_
      refine X.thenX (X.thenX (X.blockX (X.thenN ?_)))
      refine Y.seq ?_
      refine Y.sg F [(1, Vp w.heap.size), (4, Vi 0)] (Y.pv F (X.assign rfl (X.kc (Vi 0) rfl)) fun ac F=>Y.fin F) ?_;clear F ac;intro ac F
      refine Y.block ?_
      refine Y.loop (fun me_ ac wr => ∃ (j : Nat), me_ = p.nh - j ∧ Only (fun b => False) w11 wr ∧ j ≤ p.nh ∧ allN (fun i => decide ((p.hn i).size ≤ 100)) j = true ∧ Fr ac 57 [(1, Vp w.heap.size), (4, Vi j)]) _ ⟨0, rfl, Only.refl _ _, Nat.zero_le _, rfl, F.sub _⟩ ?_
      have hptB1 := hpt
      have hphB1 := hph
      have hpbB1 := hpb
      have hplB1 := hpl
      have GB1 := G
      have hCB1 := hC
      clear F ac
      intro me_ ac w13 hI
      obtain ⟨j, rfl, hO1, h0j, hokj, F⟩ := hI
      replace G := GB1.trans (hO1.gr (fun _ _ h => h))
      replace hpt := (hP.t).gr G
      replace hph := (hP.h).gr G
      replace hpb := (hP.b).gr G
      replace hpl := (hP.l).gr G
      replace hC := (RCells.cons (hO1.cell (hCB1.at 0 rfl) (fun h => h)) (RCells.cons (hO1.cell (hCB1.at 1 rfl) (fun h => h)) (RCells.cons (hO1.cell (hCB1.at 2 rfl) (fun h => h)) (RCells.cons (hO1.cell (hCB1.at 3 rfl) (fun h => h)) (RCells.nil _)))))
      refine Y.seq ?_
      refine Y.sg F [(1, Vp w.heap.size), (4, Vi j), (46, .bool (decide ((j : Int) < p.nh)))] (by
       refine Y.pv F (X.move rfl (F.ev 4 (Vi j))) fun ac F=>?_
       refine Y.pv F (X.field rfl (F.ev 1 (Vp w.heap.size)) (X.fld Try.underlying27 rfl (Try.siz23 _) rfl rfl)) fun ac F=>?_
       refine Y.pv F (X.load rfl (F.ev 43 (.pointer (some ⟨w.heap.size, 1, none⟩))) (X.ld1 (Try.agg23 _) (hC.at 1 rfl))) fun ac F=>?_
       refine Y.pv F (X.len1 Try.underlying23 rfl (F.ev 44 (.slice ha p.nh hc))) fun ac F=>?_
       refine Y.pv F (X.binop rfl (F.ev 42 (Vi j)) (F.ev 45 (Vi p.nh)) (X.lssI Try.underlying3 rfl)) fun ac F=>?_
       exact Y.fin F) ?_;clear F ac;intro ac F
      cases h14 : decide ((j : Int) < p.nh) with
      | false =>
       try rw [h14] at F
       have h14p : ¬ ((j : Int) < p.nh) := of_decide_eq_false h14
       obtain rfl : j = p.nh := by omega
       refine Y.condF (F.ev 46 (.bool false)) ?_
       refine Y.exit ?_
       refine X.thenX (X.thenX (X.blockX (X.thenN ?_)))
       refine Y.sg F [(2, .bool false)] (Y.pv F (X.assign rfl (X.kc (.bool false) rfl)) fun ac F=>Y.fin F) ?_;clear F ac;intro ac F
       refine Y.ret ?_
       exact Y.ret0 (v := .bool false) F (Y.r1 F) ⟨by rw [far_no (by omega) hoki hokj], G⟩
      | true =>
       try rw [h14] at F
       have h14p : ((j : Int) < p.nh) := of_decide_eq_true h14
       have h9j : j < p.nh := by omega
       refine Y.condT (F.ev 46 (.bool true)) ?_
       refine Y.skip ?_
       refine X.thenN ?_
       refine Y.seq ?_
       refine Y.block ?_
       refine Y.sl ?_
       refine Y.pv3 F (X.field rfl (F.ev 1 (Vp w.heap.size)) (X.fld Try.underlying27 rfl (Try.siz23 _) rfl rfl)) (fun _ F=>X.load rfl (F.ev 49 (.pointer (some ⟨w.heap.size, 1, none⟩))) (X.ld1 (Try.agg23 _) (hC.at 1 rfl))) (fun _ F=>X.move rfl (F.ev 4 (Vi j))) ?_;clear F ac;intro ac F
       obtain ⟨pd15, pe15, -, pc15⟩ := hph.at (j := j) (by omega)
       subst pe15
       replace hC := hC.append (show RCells w13 (Y.cs (pd15.add (j * 6)) [.string (p.hn j), Vi (p.hv j 1), Vi (p.hv j 2), Vi (p.hv j 3), Vi (p.hv j 4), Vi (p.hv j 5)]) from (RCells.cons (pc15 0 (by decide)) (RCells.cons (pc15 1 (by decide)) (RCells.cons (pc15 2 (by decide)) (RCells.cons (pc15 3 (by decide)) (RCells.cons (pc15 4 (by decide)) (RCells.cons (pc15 5 (by decide)) (RCells.nil _))))))))
       clear pc15
       refine Y.pv4 F (X.index rfl (F.ev 50 (.slice (some pd15) p.nh hc)) (F.ev 51 (Vi j)) (X.idx (k := j) Try.underlying23 (Try.siz53 _) (by omega) (by omega) rfl)) (fun _ F=>X.field rfl (F.ev 52 (.pointer (some (pd15.add (j * 6))))) (X.fld Try.underlying53 rfl (Try.siz9 _) rfl rfl)) (fun _ F=>X.load rfl (F.ev 53 (.pointer (some (pd15.add (j * 6))))) (X.ld1 (Try.agg9 _) (hC.at 4 rfl))) (fun _ F=>Y.lenS Try.underlying9 rfl (F.ev 54 (.string (p.hn j)))) ?_;clear F ac;intro ac F
       refine Y.pv F (X.binop rfl (F.ev 55 (Vi ((p.hn j).size : Nat))) (X.kc (Vi 100) rfl) (X.gtrI Try.underlying3 rfl)) ?_;clear F ac;intro ac F
       refine Y.nt F [(1, Vp w.heap.size), (4, Vi j), (56, .bool (decide ((100 : Int) < ((p.hn j).size : Nat))))] ?_;clear F ac;intro ac F
       cases h16 : decide ((100 : Int) < ((p.hn j).size : Nat)) with
       | false =>
        try rw [h16] at F
        have h16p : ¬ ((100 : Int) < ((p.hn j).size : Nat)) := of_decide_eq_false h16
        refine Y.condF (F.ev 56 (.bool false)) ?_
        refine Y.skip ?_
        refine X.blockN (X.thenN ?_)
        refine Y.lg F [(1, Vp w.heap.size), (4, Vi ((j : Int) + 1))] (by
         refine Y.pv F (X.move rfl (F.ev 4 (Vi j))) fun ac F=>?_
         refine Y.pv F (X.binop rfl (F.ev 47 (Vi j)) (X.kc (Vi 1) rfl) (X.addI Try.underlying3 rfl (by omega) (by omega))) fun ac F=>?_
         refine Y.pv F (X.assign rfl (F.ev 48 (Vi ((j : Int) + 1)))) fun ac F=>?_
         exact Y.fin F) ?_;clear F ac;intro ac F
        refine ⟨_, ?_, j + 1, rfl, hO1, by omega, allN_succ hokj (decide_eq_true (by omega)), F.sub _⟩
        omega
       | true =>
        try rw [h16] at F
        have h16p : ((100 : Int) < ((p.hn j).size : Nat)) := of_decide_eq_true h16
        refine Y.condT (F.ev 56 (.bool true)) ?_
        refine Y.sg F [(2, .bool true)] (Y.pv F (X.assign rfl (X.kc (.bool true) rfl)) fun ac F=>Y.fin F) ?_;clear F ac;intro ac F
        refine Y.ret ?_
        refine X.blockR (X.thenR (X.thenR (X.blockR (X.thenR ?_))))
        exact Y.ret0 (v := .bool true) F (Y.r1 F) ⟨by rw [far_h h9j (by omega)], G⟩
     | true =>
      try rw [h12] at F
      have h12p : ((i : Int) < p.nt) := of_decide_eq_true h12
      have h9i : i < p.nt := by omega
      refine Y.condT (F.ev 31 (.bool true)) ?_
      refine Y.skip ?_
      refine X.thenN ?_
      refine Y.seq ?_
      refine Y.block ?_
      refine Y.sl ?_
      refine Y.pv3 F (X.field rfl (F.ev 1 (Vp w.heap.size)) (X.fld Try.underlying27 rfl (Try.siz22 _) rfl rfl)) (fun _ F=>X.load rfl (F.ev 34 (Vp w.heap.size)) (X.ld1 (Try.agg22 _) (hC.at 0 rfl))) (fun _ F=>X.move rfl (F.ev 3 (Vi i))) ?_;clear F ac;intro ac F
      obtain ⟨pd17, pe17, -, pc17⟩ := hpt.at (j := i) (by omega)
      subst pe17
      replace hC := hC.append (show RCells w11 (Y.cs (pd17.add (i * 4)) [.string (p.tn i), Vi (p.tv i 1), Vi (p.tv i 2), Vi (p.tv i 3)]) from (RCells.cons (pc17 0 (by decide)) (RCells.cons (pc17 1 (by decide)) (RCells.cons (pc17 2 (by decide)) (RCells.cons (pc17 3 (by decide)) (RCells.nil _))))))
      clear pc17
      refine Y.pv4 F (X.index rfl (F.ev 35 (.slice (some pd17) p.nt tc)) (F.ev 36 (Vi i)) (X.idx (k := i) Try.underlying22 (Try.siz74 _) (by omega) (by omega) rfl)) (fun _ F=>X.field rfl (F.ev 37 (.pointer (some (pd17.add (i * 4))))) (X.fld Try.underlying74 rfl (Try.siz9 _) rfl rfl)) (fun _ F=>X.load rfl (F.ev 38 (.pointer (some (pd17.add (i * 4))))) (X.ld1 (Try.agg9 _) (hC.at 4 rfl))) (fun _ F=>Y.lenS Try.underlying9 rfl (F.ev 39 (.string (p.tn i)))) ?_;clear F ac;intro ac F
      refine Y.pv F (X.binop rfl (F.ev 40 (Vi ((p.tn i).size : Nat))) (X.kc (Vi 100) rfl) (X.gtrI Try.underlying3 rfl)) ?_;clear F ac;intro ac F
      refine Y.nt F [(1, Vp w.heap.size), (3, Vi i), (41, .bool (decide ((100 : Int) < ((p.tn i).size : Nat))))] ?_;clear F ac;intro ac F
      cases h18 : decide ((100 : Int) < ((p.tn i).size : Nat)) with
      | false =>
       try rw [h18] at F
       have h18p : ¬ ((100 : Int) < ((p.tn i).size : Nat)) := of_decide_eq_false h18
       refine Y.condF (F.ev 41 (.bool false)) ?_
       refine Y.skip ?_
       refine X.blockN (X.thenN ?_)
       refine Y.lg F [(1, Vp w.heap.size), (3, Vi ((i : Int) + 1))] (by
        refine Y.pv F (X.move rfl (F.ev 3 (Vi i))) fun ac F=>?_
        refine Y.pv F (X.binop rfl (F.ev 32 (Vi i)) (X.kc (Vi 1) rfl) (X.addI Try.underlying3 rfl (by omega) (by omega))) fun ac F=>?_
        refine Y.pv F (X.assign rfl (F.ev 33 (Vi ((i : Int) + 1)))) fun ac F=>?_
        exact Y.fin F) ?_;clear F ac;intro ac F
       refine ⟨_, ?_, i + 1, rfl, hO1, by omega, allN_succ hoki (decide_eq_true (by omega)), F.sub _⟩
       omega
      | true =>
       try rw [h18] at F
       have h18p : ((100 : Int) < ((p.tn i).size : Nat)) := of_decide_eq_true h18
       refine Y.condT (F.ev 41 (.bool true)) ?_
       refine Y.sg F [(2, .bool true)] (Y.pv F (X.assign rfl (X.kc (.bool true) rfl)) fun ac F=>Y.fin F) ?_;clear F ac;intro ac F
       refine Y.ret ?_
       refine X.blockR (X.thenR (X.thenR (X.blockR (X.thenR ?_))))
       exact Y.ret0 (v := .bool true) F (Y.r1 F) ⟨by rw [far_t h9i (by omega)], G⟩
    | true =>
     try rw [h10] at F
     have h10p : ((40 : Int) < p.nl) := of_decide_eq_true h10
     refine Y.condT (F.ev 26 (.bool true)) ?_
     refine Y.sg F [(2, .bool true)] (Y.pv F (X.assign rfl (X.kc (.bool true) rfl)) fun ac F=>Y.fin F) ?_;clear F ac;intro ac F
     refine Y.ret ?_
     refine X.thenR ?_
     exact Y.ret0 (v := .bool true) F (Y.r1 F) ⟨by rw [far_n (by omega)], G⟩
   | true =>
    try rw [h9] at F
    have h9p : ((40 : Int) < p.nb) := of_decide_eq_true h9
    refine Y.ps F 16 21 true ?_;clear F ac;intro ac F
    refine Y.ps F 16 21 true ?_;clear F ac;intro ac F
    refine Y.ps F 16 21 true ?_;clear F ac;intro ac F
    refine Y.ps F 16 21 true ?_;clear F ac;intro ac F
    refine Y.pv F (X.pickT rfl (F.ev 21 (.bool true)) (X.kc (.bool true) rfl)) ?_;clear F ac;intro ac F
    refine Y.nt F [(1, Vp w.heap.size), (26, .bool true)] ?_;clear F ac;intro ac F
    refine Y.condT (F.ev 26 (.bool true)) ?_
    refine Y.sg F [(2, .bool true)] (Y.pv F (X.assign rfl (X.kc (.bool true) rfl)) fun ac F=>Y.fin F) ?_;clear F ac;intro ac F
    refine Y.ret ?_
    refine X.thenR ?_
    exact Y.ret0 (v := .bool true) F (Y.r1 F) ⟨by rw [far_n (by omega)], G⟩
  | true =>
   try rw [h8] at F
   have h8p : ((20 : Int) < p.nh) := of_decide_eq_true h8
   refine Y.ps F 10 15 true ?_;clear F ac;intro ac F
   refine Y.ps F 10 15 true ?_;clear F ac;intro ac F
   refine Y.ps F 10 15 true ?_;clear F ac;intro ac F
   refine Y.ps F 10 15 true ?_;clear F ac;intro ac F
   refine Y.pv2 F (X.pickT rfl (F.ev 15 (.bool true)) (X.kc (.bool true) rfl)) (fun _ F=>X.move rfl (F.ev 20 (.bool true))) ?_;clear F ac;intro ac F
   refine Y.ps F 16 21 true ?_;clear F ac;intro ac F
   refine Y.ps F 16 21 true ?_;clear F ac;intro ac F
   refine Y.ps F 16 21 true ?_;clear F ac;intro ac F
   refine Y.ps F 16 21 true ?_;clear F ac;intro ac F
   refine Y.pv F (X.pickT rfl (F.ev 21 (.bool true)) (X.kc (.bool true) rfl)) ?_;clear F ac;intro ac F
   refine Y.nt F [(1, Vp w.heap.size), (26, .bool true)] ?_;clear F ac;intro ac F
   refine Y.condT (F.ev 26 (.bool true)) ?_
   refine Y.sg F [(2, .bool true)] (Y.pv F (X.assign rfl (X.kc (.bool true) rfl)) fun ac F=>Y.fin F) ?_;clear F ac;intro ac F
   refine Y.ret ?_
   refine X.thenR ?_
   exact Y.ret0 (v := .bool true) F (Y.r1 F) ⟨by rw [far_n (by omega)], G⟩
 | true =>
  try rw [h7] at F
  have h7p : ((20 : Int) < p.nt) := of_decide_eq_true h7
  refine Y.ps F 4 9 true ?_;clear F ac;intro ac F
  refine Y.ps F 4 9 true ?_;clear F ac;intro ac F
  refine Y.ps F 4 9 true ?_;clear F ac;intro ac F
  refine Y.ps F 4 9 true ?_;clear F ac;intro ac F
  refine Y.pv2 F (X.pickT rfl (F.ev 9 (.bool true)) (X.kc (.bool true) rfl)) (fun _ F=>X.move rfl (F.ev 14 (.bool true))) ?_;clear F ac;intro ac F
  refine Y.ps F 10 15 true ?_;clear F ac;intro ac F
  refine Y.ps F 10 15 true ?_;clear F ac;intro ac F
  refine Y.ps F 10 15 true ?_;clear F ac;intro ac F
  refine Y.ps F 10 15 true ?_;clear F ac;intro ac F
  refine Y.pv2 F (X.pickT rfl (F.ev 15 (.bool true)) (X.kc (.bool true) rfl)) (fun _ F=>X.move rfl (F.ev 20 (.bool true))) ?_;clear F ac;intro ac F
  refine Y.ps F 16 21 true ?_;clear F ac;intro ac F
  refine Y.ps F 16 21 true ?_;clear F ac;intro ac F
  refine Y.ps F 16 21 true ?_;clear F ac;intro ac F
  refine Y.ps F 16 21 true ?_;clear F ac;intro ac F
  refine Y.pv F (X.pickT rfl (F.ev 21 (.bool true)) (X.kc (.bool true) rfl)) ?_;clear F ac;intro ac F
  refine Y.nt F [(1, Vp w.heap.size), (26, .bool true)] ?_;clear F ac;intro ac F
  refine Y.condT (F.ev 26 (.bool true)) ?_
  refine Y.sg F [(2, .bool true)] (Y.pv F (X.assign rfl (X.kc (.bool true) rfl)) fun ac F=>Y.fin F) ?_;clear F ac;intro ac F
  refine Y.ret ?_
  refine X.thenR ?_
  exact Y.ret0 (v := .bool true) F (Y.r1 F) ⟨by rw [far_n (by omega)], G⟩
set_option maxRecDepth 100000 in
set_option maxHeartbeats 400000 in
theorem large_any (p : Pb) (ta ha ba la : Option Addr) (tc hc bc lc : Nat) (w : World) (hP : PbAt w p ta ha ba la tc hc bc lc) :
  Calls Try.prog 21 #[.agg #[.slice ta p.nt tc, .slice ha p.nh hc, .slice ba p.nb bc, .slice la p.nl lc]] w fun e w' => e = .returned (.bool (largeB p)) ∧ Gr w w' := by
 have G := Gr.refl w
 have hpt := hP.t
 have hph := hP.h
 have hpb := hP.b
 have hpl := hP.l
 have hplen := hP.len
 obtain ⟨hn1, hn2, hn3, hn4⟩ := hplen
 have hcp1 := hpt.cap
 have hcp2 := hph.cap
 have hcp3 := hpb.cap
 have hcp4 := hpl.cap
 refine Y.calls 22 Try.func21 rfl rfl ?_
 intro ac F0
 have F : Fr ac 22 [(0, .agg #[.slice ta p.nt tc, .slice ha p.nh hc, .slice ba p.nb bc, .slice la p.nl lc])] := F0.sub _
 clear F0
 refine Y.sl ?_
 have hgs3 : w.heap.size ≤ w.heap.size := G.size
 refine Y.pv F (X.box rfl (F.ev 0 (.agg #[.slice ta p.nt tc, .slice ha p.nh hc, .slice ba p.nb bc, .slice la p.nl lc])) X.bx) ?_;clear F ac;intro ac F
 have hgs5 : w.heap.size ≤ w.heap.size := G.size
 obtain ⟨w6, hw_, g, hb, hbl, hC2⟩ := Y.bxd (RCells.nil w) #[.slice ta p.nt tc, .slice ha p.nh hc, .slice ba p.nb bc, .slice la p.nl lc] 27;rw [hw_];clear hw_
 replace G := G.trans g
 have hC := hC2
 clear hC2
 replace hpt := hpt.gr g
 replace hph := hph.gr g
 replace hpb := hpb.gr g
 replace hpl := hpl.gr g
 have hsz4 := hbl
 clear g hb hbl
 refine Y.pv F (X.assign rfl (X.kc (.bool false) rfl)) ?_;clear F ac;intro ac F
 refine Y.nt F [(1, Vp w.heap.size)] ?_;clear F ac;intro ac F
 refine Y.sl ?_
 refine Y.pv F (X.load rfl (F.ev 1 (Vp w.heap.size)) (X.ldN (Try.agg27 _) (Try.siz27 _) (Y.atz (⟨w.heap.size, 0, none⟩) (Y.AtFrom.cons (hC.at 0 rfl) (Y.AtFrom.cons (hC.at 1 rfl) (Y.AtFrom.cons (hC.at 2 rfl) (Y.AtFrom.cons (hC.at 3 rfl) (Y.AtFrom.nil _ _ _)))))))) ?_;clear F ac;intro ac F
 refine Y.pc F 15 (X.a1 (F.ev 3 (.agg #[.slice ta p.nt tc, .slice ha p.nh hc, .slice ba p.nb bc, .slice la p.nl lc]))) Try.func15 (far_any p ta ha ba la tc hc bc lc w6 (hP.gr G)) ?_
 clear F ac
 rintro e w7 ⟨rfl, g⟩
 refine ⟨_, rfl, ?_⟩
 intro ac F
 replace G := G.trans g
 replace hC := hC.gr g
 replace hpt := hpt.gr g
 replace hph := hph.gr g
 replace hpb := hpb.gr g
 replace hpl := hpl.gr g
 clear g
 refine Y.pv F (X.move rfl (F.ev 4 (.bool (farB p)))) ?_;clear F ac;intro ac F
 cases h8 : farB p with
 | false =>
  try rw [h8] at F
  refine Y.pg F 2 5 false (X.load rfl (F.ev 1 (Vp w.heap.size)) (X.ldN (Try.agg27 _) (Try.siz27 _) (Y.atz (⟨w.heap.size, 0, none⟩) (Y.AtFrom.cons (hC.at 0 rfl) (Y.AtFrom.cons (hC.at 1 rfl) (Y.AtFrom.cons (hC.at 2 rfl) (Y.AtFrom.cons (hC.at 3 rfl) (Y.AtFrom.nil _ _ _)))))))) ?_;clear F ac;intro ac F
  refine Y.pcall F (X.w1 rfl (F.yl (j := 2) (d := 5) (b := false) rfl (by kernel_rfl))) rfl (X.enter (F := 19) rfl (X.kc (.func (.func 19) #[] #[]) rfl) (X.a1 (F.ev 6 (.agg #[.slice ta p.nt tc, .slice ha p.nh hc, .slice ba p.nb bc, .slice la p.nl lc]))) (enters_of Try.func19 (by kernel_rfl) rfl _)) (check2_any p ta ha ba la tc hc bc lc w7 (hP.gr G)) ?_
  clear F ac
  rintro e w9 ⟨rfl, g⟩
  refine ⟨_, rfl, ?_⟩
  intro ac F
  replace G := G.trans g
  replace hC := hC.gr g
  replace hpt := hpt.gr g
  replace hph := hph.gr g
  replace hpb := hpb.gr g
  replace hpl := hpl.gr g
  clear g
  refine Y.pg F 2 5 false (X.binop rfl (F.ev 7 (Vi (chkE p))) (X.kc (Vi 0) rfl) (X.eqlI Try.underlying31 rfl)) ?_;clear F ac;intro ac F
  refine Y.pg F 2 5 false (X.move rfl (F.ev 8 (.bool ((chkE p : Int) == 0)))) ?_;clear F ac;intro ac F
  cases h10 : ((chkE p : Int) == 0) with
  | false =>
   try rw [h10] at F
   have h10p : ¬ (chkE p : Int) = 0 := by simpa using h10
   refine Y.ps F 6 9 false ?_;clear F ac;intro ac F
   refine Y.ps F 6 9 false ?_;clear F ac;intro ac F
   refine Y.ps F 6 9 false ?_;clear F ac;intro ac F
   refine Y.ps F 6 9 false ?_;clear F ac;intro ac F
   refine Y.ps F 6 9 false ?_;clear F ac;intro ac F
   refine Y.pn F 11 14 ?_;clear F ac;intro ac F
   refine Y.pn F 11 14 ?_;clear F ac;intro ac F
   refine Y.pn F 11 14 ?_;clear F ac;intro ac F
   refine Y.pn F 11 14 ?_;clear F ac;intro ac F
   refine Y.ps F 6 9 false ?_;clear F ac;intro ac F
   refine Y.pg F 2 5 false (X.pickF rfl (F.ev 9 (.bool false)) (X.kc (.bool false) rfl)) ?_;clear F ac;intro ac F
   refine Y.pv2 F (X.pickF rfl (F.ev 5 (.bool false)) (F.ev 20 (.bool false))) (fun _ F=>X.assign rfl (F.ev 21 (.bool false))) ?_;clear F ac;intro ac F
   refine Y.nt F [(2, .bool false)] ?_;clear F ac;intro ac F
   refine Y.ret ?_
   exact Y.ret0 (v := .bool false) F (Y.r1 F) ⟨by unfold largeB; rw [h8, decide_eq_false (by omega : ¬ chkE p = 0)]; rfl, G⟩
  | true =>
   try rw [h10] at F
   have h10p : (chkE p : Int) = 0 := by simpa using h10
   refine Y.pg F 6 9 true (X.field rfl (F.ev 1 (Vp w.heap.size)) (X.fld Try.underlying27 rfl (Try.siz22 _) rfl rfl)) ?_;clear F ac;intro ac F
   refine Y.pg F 6 9 true (X.load rfl (F.ev 10 (Vp w.heap.size)) (X.ld1 (Try.agg22 _) (hC.at 0 rfl))) ?_;clear F ac;intro ac F
   refine Y.pg F 6 9 true (X.len1 Try.underlying22 rfl (F.ev 11 (.slice ta p.nt tc))) ?_;clear F ac;intro ac F
   refine Y.pg F 6 9 true (X.binop rfl (F.ev 12 (Vi p.nt)) (X.kc (Vi 5) rfl) (X.gtrI Try.underlying3 rfl)) ?_;clear F ac;intro ac F
   refine Y.pg F 6 9 true (X.move rfl (F.ev 13 (.bool (decide ((5 : Int) < p.nt))))) ?_;clear F ac;intro ac F
   cases h11 : decide ((5 : Int) < p.nt) with
   | false =>
    try rw [h11] at F
    have h11p : ¬ ((5 : Int) < p.nt) := of_decide_eq_false h11
    refine Y.pg F 11 14 false (X.field rfl (F.ev 1 (Vp w.heap.size)) (X.fld Try.underlying27 rfl (Try.siz23 _) rfl rfl)) ?_;clear F ac;intro ac F
    refine Y.pg F 11 14 false (X.load rfl (F.ev 15 (.pointer (some ⟨w.heap.size, 1, none⟩))) (X.ld1 (Try.agg23 _) (hC.at 1 rfl))) ?_;clear F ac;intro ac F
    refine Y.pg F 11 14 false (X.len1 Try.underlying23 rfl (F.ev 16 (.slice ha p.nh hc))) ?_;clear F ac;intro ac F
    refine Y.pg F 11 14 false (X.binop rfl (F.ev 17 (Vi p.nh)) (X.kc (Vi 4) rfl) (X.gtrI Try.underlying3 rfl)) ?_;clear F ac;intro ac F
    refine Y.pg F 6 9 true (X.pickF rfl (F.ev 14 (.bool false)) (F.ev 18 (.bool (decide ((4 : Int) < p.nh))))) ?_;clear F ac;intro ac F
    refine Y.pg F 2 5 false (X.pickT rfl (F.ev 9 (.bool true)) (F.ev 19 (.bool (decide ((4 : Int) < p.nh))))) ?_;clear F ac;intro ac F
    refine Y.pv2 F (X.pickF rfl (F.ev 5 (.bool false)) (F.ev 20 (.bool (decide ((4 : Int) < p.nh))))) (fun _ F=>X.assign rfl (F.ev 21 (.bool (decide ((4 : Int) < p.nh))))) ?_;clear F ac;intro ac F
    refine Y.nt F [(2, .bool (decide ((4 : Int) < p.nh)))] ?_;clear F ac;intro ac F
    refine Y.ret ?_
    exact Y.ret0 (v := .bool (decide ((4 : Int) < p.nh))) F (Y.r1 F) ⟨by unfold largeB; rw [h8, decide_eq_true (by omega : chkE p = 0), decide_eq_false (by omega : ¬ 5 < p.nt), show decide ((4 : Int) < p.nh) = decide (4 < p.nh) from decide_eq_decide.2 (by omega)]; simp, G⟩
   | true =>
    try rw [h11] at F
    have h11p : ((5 : Int) < p.nt) := of_decide_eq_true h11
    refine Y.ps F 11 14 true ?_;clear F ac;intro ac F
    refine Y.ps F 11 14 true ?_;clear F ac;intro ac F
    refine Y.ps F 11 14 true ?_;clear F ac;intro ac F
    refine Y.ps F 11 14 true ?_;clear F ac;intro ac F
    refine Y.pg F 6 9 true (X.pickT rfl (F.ev 14 (.bool true)) (X.kc (.bool true) rfl)) ?_;clear F ac;intro ac F
    refine Y.pg F 2 5 false (X.pickT rfl (F.ev 9 (.bool true)) (F.ev 19 (.bool true))) ?_;clear F ac;intro ac F
    refine Y.pv2 F (X.pickF rfl (F.ev 5 (.bool false)) (F.ev 20 (.bool true))) (fun _ F=>X.assign rfl (F.ev 21 (.bool true))) ?_;clear F ac;intro ac F
    refine Y.nt F [(2, .bool true)] ?_;clear F ac;intro ac F
    refine Y.ret ?_
    exact Y.ret0 (v := .bool true) F (Y.r1 F) ⟨by unfold largeB; rw [h8, decide_eq_true (by omega : chkE p = 0), decide_eq_true (by omega : 5 < p.nt)]; rfl, G⟩
 | true =>
  try rw [h8] at F
  refine Y.ps F 2 5 true ?_;clear F ac;intro ac F
  refine Y.ps F 2 5 true ?_;clear F ac;intro ac F
  refine Y.ps F 2 5 true ?_;clear F ac;intro ac F
  refine Y.ps F 2 5 true ?_;clear F ac;intro ac F
  refine Y.pn F 6 9 ?_;clear F ac;intro ac F
  refine Y.pn F 6 9 ?_;clear F ac;intro ac F
  refine Y.pn F 6 9 ?_;clear F ac;intro ac F
  refine Y.pn F 6 9 ?_;clear F ac;intro ac F
  refine Y.pn F 6 9 ?_;clear F ac;intro ac F
  refine Y.pn F 11 14 ?_;clear F ac;intro ac F
  refine Y.pn F 11 14 ?_;clear F ac;intro ac F
  refine Y.pn F 11 14 ?_;clear F ac;intro ac F
  refine Y.pn F 11 14 ?_;clear F ac;intro ac F
  refine Y.pn F 6 9 ?_;clear F ac;intro ac F
  refine Y.ps F 2 5 true ?_;clear F ac;intro ac F
  refine Y.pv2 F (X.pickT rfl (F.ev 5 (.bool true)) (X.kc (.bool true) rfl)) (fun _ F=>X.assign rfl (F.ev 21 (.bool true))) ?_;clear F ac;intro ac F
  refine Y.nt F [(2, .bool true)] ?_;clear F ac;intro ac F
  refine Y.ret ?_
  exact Y.ret0 (v := .bool true) F (Y.r1 F) ⟨by unfold largeB; rw [h8]; rfl, G⟩
end
section
open Go.RowKit

/-- a problem in memory of the call's own -/
structure PbOwn (w : World) (B : Nat) (p : Pb) (ta ha ba la : Option Addr) (tc hc bc lc : Nat) : Prop where
  t : OwnR w B 74 4 (.slice ta p.nt tc) p.nt (tbL (tvV p) p.nt 4)
  h : OwnR w B 53 6 (.slice ha p.nh hc) p.nh (tbL (hvV p) p.nh 6)
  b : OwnR w B 65 3 (.slice ba p.nb bc) p.nb (tbL (bvV p) p.nb 3)
  l : OwnR w B 84 3 (.slice la p.nl lc) p.nl (tbL (lvV p) p.nl 3)
  s1 : ∀ i, i < p.nt → (p.tn i).size ≤ 9223372036854775807
  s2 : ∀ i, i < p.nh → (p.hn i).size ≤ 9223372036854775807
def SmlP (p : Pb) : Prop := p.nt ≤ 20 ∧ p.nh ≤ 20 ∧ p.nb ≤ 40 ∧ p.nl ≤ 40
theorem PbOwn.at {w : World} {B : Nat} {p : Pb} {ta ha ba la : Option Addr} {tc hc bc lc : Nat} (h : PbOwn w B p ta ha ba la tc hc bc lc) (hz : SmlP p) : PbAt w p ta ha ba la tc hc bc lc := by
  obtain ⟨h1, h2, h3, h4⟩ := hz
  exact ⟨h.t.tb (by omega), h.h.tb (by omega), h.b.tb (by omega), h.l.tb (by omega), h.s1, h.s2⟩
theorem PbOwn.gr {w w' : World} {B : Nat} {p : Pb} {ta ha ba la : Option Addr} {tc hc bc lc : Nat} (h : PbOwn w B p ta ha ba la tc hc bc lc) (g : Gr w w') : PbOwn w' B p ta ha ba la tc hc bc lc := ⟨h.t.gr g, h.h.gr g, h.b.gr g, h.l.gr g, h.s1, h.s2⟩
theorem OwnR.after {w w' : World} {b B e k n c : Nat} {a : Option Addr} {xs : List Value} (h : OwnR w B e k (.slice a n c) n xs) (g : Only (fun x => x = b) w w') (hb : b < B) : OwnR w' B e k (.slice a n c) n xs :=
  h.only g (fun x hx e => by have h1 := (h.ge hx).1; have h2 : x = b := e; omega)
set_option maxRecDepth 100000 in
set_option maxHeartbeats 2000000 in
theorem copy_any (p : Pb) (ta ha ba la : Option Addr) (tc hc bc lc : Nat) (w : World) (hP : PbAt w p ta ha ba la tc hc bc lc) (hz : SmlP p) :
  Calls Try.prog 17 #[.agg #[.slice ta p.nt tc, .slice ha p.nh hc, .slice ba p.nb bc, .slice la p.nl lc]] w fun e w' => ∃ ta ha ba la tc hc bc lc, e = .returned (.agg #[.slice ta p.nt tc, .slice ha p.nh hc, .slice ba p.nb bc, .slice la p.nl lc]) ∧ PbOwn w' w.heap.size p ta ha ba la tc hc bc lc ∧ Gr w w' := by
 have G := Gr.refl w
 have hpt := hP.t
 have hph := hP.h
 have hpb := hP.b
 have hpl := hP.l
 have hplen := hP.len
 obtain ⟨hn1, hn2, hn3, hn4⟩ := hplen
 have hcp1 := hpt.cap
 have hcp2 := hph.cap
 have hcp3 := hpb.cap
 have hcp4 := hpl.cap
 obtain ⟨hz1, hz2, hz3, hz4⟩ := hz
 refine Y.calls 20 Try.func17 rfl rfl ?_
 intro ac F0
 have F : Fr ac 20 [(0, .agg #[.slice ta p.nt tc, .slice ha p.nh hc, .slice ba p.nb bc, .slice la p.nl lc])] := F0.sub _
 clear F0
 refine Y.sl ?_
 have hgs3 : w.heap.size ≤ w.heap.size := G.size
 refine Y.pv F (X.box rfl (F.ev 0 (.agg #[.slice ta p.nt tc, .slice ha p.nh hc, .slice ba p.nb bc, .slice la p.nl lc])) X.bx) ?_;clear F ac;intro ac F
 have hgs5 : w.heap.size ≤ w.heap.size := G.size
 obtain ⟨w6, hw_, g, hb, hbl, hC2⟩ := Y.bxd (RCells.nil w) #[.slice ta p.nt tc, .slice ha p.nh hc, .slice ba p.nb bc, .slice la p.nl lc] 27;rw [hw_];clear hw_
 replace G := G.trans g
 have hC := hC2
 clear hC2
 replace hpt := hpt.gr g
 replace hph := hph.gr g
 replace hpb := hpb.gr g
 replace hpl := hpl.gr g
 have hsz4 := hbl
 clear g hb hbl
 refine Y.pv F (Y.al rfl (Try.new27 _)) ?_;clear F ac;intro ac F
 have g := Gr.alloc w6 (.cells #[.slice none 0 0, .slice none 0 0, .slice none 0 0, .slice none 0 0] 27)
 have hb := heap_alloc_new w6 (.cells #[.slice none 0 0, .slice none 0 0, .slice none 0 0, .slice none 0 0] 27)
 have hszw7 : w6.heap.size < (w6.alloc (.cells #[.slice none 0 0, .slice none 0 0, .slice none 0 0, .slice none 0 0] 27)).heap.size := by simp
 have hgsw7 : w.heap.size ≤ w6.heap.size := G.size
 generalize w6.alloc (.cells #[.slice none 0 0, .slice none 0 0, .slice none 0 0, .slice none 0 0] 27) = w7 at *
 replace G := G.trans g
 replace hC := hC.gr g
 replace hpt := hpt.gr g
 replace hph := hph.gr g
 replace hpb := hpb.gr g
 replace hpl := hpl.gr g
 have hVw7 : OwnP w7 w6.heap.size 4 (VL [.slice none 0 0, .slice none 0 0, .slice none 0 0, .slice none 0 0]) := ownP_bx (vs := [.slice none 0 0, .slice none 0 0, .slice none 0 0, .slice none 0 0]) hb
 clear g hb
 refine Y.nt F [(1, Vp w.heap.size), (2, Vp w6.heap.size)] ?_;clear F ac;intro ac F
 refine Y.seq ?_
 have hgL : w.heap.size ≤ w7.heap.size := G.size
 have hbB := hVw7.lt
 have hbw : w.heap.size ≤ w6.heap.size := by first | exact Nat.le_refl _ | omega
 obtain ⟨TT, hTT⟩ : ∃ T : (Nat → Value) → World → Prop, T = fun _ W => ∃ t0 c0 t1 c1 t2 c2 t3 c3, OwnP W w6.heap.size 4 (VL [.slice t0 p.nt c0, .slice t1 p.nh c1, .slice t2 p.nb c2, .slice t3 p.nl c3]) ∧ Only (fun x => x = w6.heap.size) w7 W ∧ OwnR W w7.heap.size 74 4 (.slice t0 p.nt c0) p.nt (tbL (tvV p) p.nt 4) ∧ OwnR W w7.heap.size 53 6 (.slice t1 p.nh c1) p.nh (tbL (hvV p) p.nh 6) ∧ OwnR W w7.heap.size 65 3 (.slice t2 p.nb c2) p.nb (tbL (bvV p) p.nb 3) ∧ OwnR W w7.heap.size 84 3 (.slice t3 p.nl c3) p.nl (tbL (lvV p) p.nl 3) := ⟨_, rfl⟩
 refine Y.regionS F [none, some (Vp w.heap.size), some (.slice ta p.nt tc), none, none, some (.pointer (some ⟨w.heap.size, 1, none⟩)), some (.slice ha p.nh hc), none, none, some (.pointer (some ⟨w.heap.size, 2, none⟩)), some (.slice ba p.nb bc), none, none, some (.pointer (some ⟨w.heap.size, 3, none⟩)), some (.slice la p.nl lc), none, none, none] [(0, Y.MP.row0 w7.heap.size 74 4), (3, Y.MP.row w7.heap.size 74 4 p.nt (tbL (tvV p) p.nt 4)), (4, Y.MP.row0 w7.heap.size 53 6), (7, Y.MP.row w7.heap.size 53 6 p.nh (tbL (hvV p) p.nh 6)), (8, Y.MP.row0 w7.heap.size 65 3), (11, Y.MP.row w7.heap.size 65 3 p.nb (tbL (bvV p) p.nb 3)), (12, Y.MP.row0 w7.heap.size 84 3), (15, Y.MP.row w7.heap.size 84 3 p.nl (tbL (lvV p) p.nl 3)), (16, Y.MP.pbv w7.heap.size p)] 17 TT rfl ⟨by kernel_rfl, of_decide_eq_true (by kernel_rfl), by kernel_rfl, by kernel_rfl, by kernel_rfl⟩ (of_decide_eq_true (by kernel_rfl)) ⟨?_, ?_, ?_, ?_, ?_, ?_, ?_, ?_, ?_, ?_, ?_, ?_, ?_, ?_, ?_, ?_, ?_, ?_, trivial⟩ ?_
 ·intro ac done u W Sx hT
  have hs := Sx.no 17 (by kernel_rfl)
  have hR := hT.1 hs
  have g : Gr w7 W := hR.1
  exact X.valN (X.w0 rfl) rfl (X.bs rfl X.bs0 (Try.bs22_0 _)) (Y.RT.of hs rfl (hR.new (q := Y.MP.row0 w7.heap.size 74 4) (Gr.alloc _ _) rfl ⟨_, rfl, ownR_new (heap_alloc_new _ _) g.size⟩))
 ·intro ac done u W Sx hT
  have hs := Sx.no 17 (by kernel_rfl)
  have hR := hT.1 hs
  have g : Gr w7 W := hR.1
  exact X.vl (X.field rfl (Sx.ev 1 (Vp w.heap.size)) (X.fld Try.underlying27 rfl (Try.siz22 _) rfl rfl)) (Y.RT.of hs rfl hR.st0)
 ·intro ac done u W Sx hT
  have hs := Sx.no 17 (by kernel_rfl)
  have hR := hT.1 hs
  have g : Gr w7 W := hR.1
  exact X.vl (X.load rfl (Sx.ev 4 (Vp w.heap.size)) (X.ld1 (Try.agg22 _) ((hC.gr g).at 0 rfl))) (Y.RT.of hs rfl hR.st0)
 ·intro ac done u W Sx hT
  have hs := Sx.no 17 (by kernel_rfl)
  have hR := hT.1 hs
  have g : Gr w7 W := hR.1
  obtain ⟨ra0, e0, hI0⟩ := hR.get (i := 0) (Y.MP.row0 w7.heap.size 74 4) rfl (Sx.an 0 (by kernel_rfl))
  obtain ⟨a9, c9, W2, hrun, hO2, g2⟩ := run_copyN (P := Try.prog) (ts := 22) Try.underlying22 Try.info74 rfl (by decide) hI0 (hpt.gr g).none0 tbL_len ((hpt.gr g).src (by decide)) (tv_one p _) (by omega) (by decide) g.size
  exact X.valN (X.w0 rfl) rfl (Y.apz rfl ((Sx.own 0 3 rfl).trans e0) (Sx.ev 5 (.slice ta p.nt tc)) hrun) (Y.RT.of hs rfl (hR.new (q := Y.MP.row w7.heap.size 74 4 p.nt (tbL (tvV p) p.nt 4)) g2 rfl ⟨_, _, rfl, hO2⟩))
 ·intro ac done u W Sx hT
  have hs := Sx.no 17 (by kernel_rfl)
  have hR := hT.1 hs
  have g : Gr w7 W := hR.1
  exact X.valN (X.w0 rfl) rfl (X.bs rfl X.bs0 (Try.bs23_0 _)) (Y.RT.of hs rfl (hR.new (q := Y.MP.row0 w7.heap.size 53 6) (Gr.alloc _ _) rfl ⟨_, rfl, ownR_new (heap_alloc_new _ _) g.size⟩))
 ·intro ac done u W Sx hT
  have hs := Sx.no 17 (by kernel_rfl)
  have hR := hT.1 hs
  have g : Gr w7 W := hR.1
  exact X.vl (X.field rfl (Sx.ev 1 (Vp w.heap.size)) (X.fld Try.underlying27 rfl (Try.siz23 _) rfl rfl)) (Y.RT.of hs rfl hR.st0)
 ·intro ac done u W Sx hT
  have hs := Sx.no 17 (by kernel_rfl)
  have hR := hT.1 hs
  have g : Gr w7 W := hR.1
  exact X.vl (X.load rfl (Sx.ev 8 (.pointer (some ⟨w.heap.size, 1, none⟩))) (X.ld1 (Try.agg23 _) ((hC.gr g).at 1 rfl))) (Y.RT.of hs rfl hR.st0)
 ·intro ac done u W Sx hT
  have hs := Sx.no 17 (by kernel_rfl)
  have hR := hT.1 hs
  have g : Gr w7 W := hR.1
  obtain ⟨ra4, e4, hI4⟩ := hR.get (i := 4) (Y.MP.row0 w7.heap.size 53 6) rfl (Sx.an 4 (by kernel_rfl))
  obtain ⟨a9, c9, W2, hrun, hO2, g2⟩ := run_copyN (P := Try.prog) (ts := 23) Try.underlying23 Try.info53 rfl (by decide) hI4 (hph.gr g).none0 tbL_len ((hph.gr g).src (by decide)) (hv_one p _) (by omega) (by decide) g.size
  exact X.valN (X.w0 rfl) rfl (Y.apz rfl ((Sx.own 4 7 rfl).trans e4) (Sx.ev 9 (.slice ha p.nh hc)) hrun) (Y.RT.of hs rfl (hR.new (q := Y.MP.row w7.heap.size 53 6 p.nh (tbL (hvV p) p.nh 6)) g2 rfl ⟨_, _, rfl, hO2⟩))
 ·intro ac done u W Sx hT
  have hs := Sx.no 17 (by kernel_rfl)
  have hR := hT.1 hs
  have g : Gr w7 W := hR.1
  exact X.valN (X.w0 rfl) rfl (X.bs rfl X.bs0 (Try.bs24_0 _)) (Y.RT.of hs rfl (hR.new (q := Y.MP.row0 w7.heap.size 65 3) (Gr.alloc _ _) rfl ⟨_, rfl, ownR_new (heap_alloc_new _ _) g.size⟩))
 ·intro ac done u W Sx hT
  have hs := Sx.no 17 (by kernel_rfl)
  have hR := hT.1 hs
  have g : Gr w7 W := hR.1
  exact X.vl (X.field rfl (Sx.ev 1 (Vp w.heap.size)) (X.fld Try.underlying27 rfl (Try.siz24 _) rfl rfl)) (Y.RT.of hs rfl hR.st0)
 ·intro ac done u W Sx hT
  have hs := Sx.no 17 (by kernel_rfl)
  have hR := hT.1 hs
  have g : Gr w7 W := hR.1
  exact X.vl (X.load rfl (Sx.ev 12 (.pointer (some ⟨w.heap.size, 2, none⟩))) (X.ld1 (Try.agg24 _) ((hC.gr g).at 2 rfl))) (Y.RT.of hs rfl hR.st0)
 ·intro ac done u W Sx hT
  have hs := Sx.no 17 (by kernel_rfl)
  have hR := hT.1 hs
  have g : Gr w7 W := hR.1
  obtain ⟨ra8, e8, hI8⟩ := hR.get (i := 8) (Y.MP.row0 w7.heap.size 65 3) rfl (Sx.an 8 (by kernel_rfl))
  obtain ⟨a9, c9, W2, hrun, hO2, g2⟩ := run_copyN (P := Try.prog) (ts := 24) Try.underlying24 Try.info65 rfl (by decide) hI8 (hpb.gr g).none0 tbL_len ((hpb.gr g).src (by decide)) (bv_one p _) (by omega) (by decide) g.size
  exact X.valN (X.w0 rfl) rfl (Y.apz rfl ((Sx.own 8 11 rfl).trans e8) (Sx.ev 13 (.slice ba p.nb bc)) hrun) (Y.RT.of hs rfl (hR.new (q := Y.MP.row w7.heap.size 65 3 p.nb (tbL (bvV p) p.nb 3)) g2 rfl ⟨_, _, rfl, hO2⟩))
 ·intro ac done u W Sx hT
  have hs := Sx.no 17 (by kernel_rfl)
  have hR := hT.1 hs
  have g : Gr w7 W := hR.1
  exact X.valN (X.w0 rfl) rfl (X.bs rfl X.bs0 (Try.bs25_0 _)) (Y.RT.of hs rfl (hR.new (q := Y.MP.row0 w7.heap.size 84 3) (Gr.alloc _ _) rfl ⟨_, rfl, ownR_new (heap_alloc_new _ _) g.size⟩))
 ·intro ac done u W Sx hT
  have hs := Sx.no 17 (by kernel_rfl)
  have hR := hT.1 hs
  have g : Gr w7 W := hR.1
  exact X.vl (X.field rfl (Sx.ev 1 (Vp w.heap.size)) (X.fld Try.underlying27 rfl (Try.siz25 _) rfl rfl)) (Y.RT.of hs rfl hR.st0)
 ·intro ac done u W Sx hT
  have hs := Sx.no 17 (by kernel_rfl)
  have hR := hT.1 hs
  have g : Gr w7 W := hR.1
  exact X.vl (X.load rfl (Sx.ev 16 (.pointer (some ⟨w.heap.size, 3, none⟩))) (X.ld1 (Try.agg25 _) ((hC.gr g).at 3 rfl))) (Y.RT.of hs rfl hR.st0)
 ·intro ac done u W Sx hT
  have hs := Sx.no 17 (by kernel_rfl)
  have hR := hT.1 hs
  have g : Gr w7 W := hR.1
  obtain ⟨ra12, e12, hI12⟩ := hR.get (i := 12) (Y.MP.row0 w7.heap.size 84 3) rfl (Sx.an 12 (by kernel_rfl))
  obtain ⟨a9, c9, W2, hrun, hO2, g2⟩ := run_copyN (P := Try.prog) (ts := 25) Try.underlying25 Try.info84 rfl (by decide) hI12 (hpl.gr g).none0 tbL_len ((hpl.gr g).src (by decide)) (lv_one p _) (by omega) (by decide) g.size
  exact X.valN (X.w0 rfl) rfl (Y.apz rfl ((Sx.own 12 15 rfl).trans e12) (Sx.ev 17 (.slice la p.nl lc)) hrun) (Y.RT.of hs rfl (hR.new (q := Y.MP.row w7.heap.size 84 3 p.nl (tbL (lvV p) p.nl 3)) g2 rfl ⟨_, _, rfl, hO2⟩))
 ·intro ac done u W Sx hT
  have hs := Sx.no 17 (by kernel_rfl)
  have hR := hT.1 hs
  have g : Gr w7 W := hR.1
  obtain ⟨ra3, rc3, e3, hI3⟩ := hR.get (i := 3) (Y.MP.row w7.heap.size 74 4 p.nt (tbL (tvV p) p.nt 4)) rfl (Sx.an 3 (by kernel_rfl))
  obtain ⟨ra7, rc7, e7, hI7⟩ := hR.get (i := 7) (Y.MP.row w7.heap.size 53 6 p.nh (tbL (hvV p) p.nh 6)) rfl (Sx.an 7 (by kernel_rfl))
  obtain ⟨ra11, rc11, e11, hI11⟩ := hR.get (i := 11) (Y.MP.row w7.heap.size 65 3 p.nb (tbL (bvV p) p.nb 3)) rfl (Sx.an 11 (by kernel_rfl))
  obtain ⟨ra15, rc15, e15, hI15⟩ := hR.get (i := 15) (Y.MP.row w7.heap.size 84 3 p.nl (tbL (lvV p) p.nl 3)) rfl (Sx.an 15 (by kernel_rfl))
  exact X.valN (X.w0 rfl) rfl (Y.bd rfl (X.b4 ((Sx.own 3 6 rfl).trans e3) ((Sx.own 7 10 rfl).trans e7) ((Sx.own 11 14 rfl).trans e11) ((Sx.own 15 18 rfl).trans e15)) (Try.bd27f _ _ _ _ _ _ _ _ _ _ _ _ _)) (Y.RT.of hs rfl (hR.new (q := Y.MP.pbv w7.heap.size p) (Gr.refl _) rfl ⟨_, _, _, _, _, _, _, _, rfl, hI3, hI7, hI11, hI15⟩))
 ·intro ac done u W Sx hT
  have hR := hT.1 Sx.nd
  have g : Gr w7 W := hR.1
  obtain ⟨t0, c0, t1, c1, t2, c2, t3, c3, e16, hO0, hO1, hO2, hO3⟩ := hR.get (i := 16) (Y.MP.pbv w7.heap.size p) rfl (Sx.an 16 (by kernel_rfl))
  obtain ⟨W2, hrun, hV2, hon⟩ := ownP_store (P := Try.prog) (vs := [.slice t0 p.nt c0, .slice t1 p.nh c1, .slice t2 p.nb c2, .slice t3 p.nl c3]) (t := 27) (hVw7.gr g) rfl (fun W => Try.siz27 W) rfl
  exact X.unit (X.w0 rfl) rfl (X.store rfl (Sx.ev 2 (Vp w6.heap.size)) ((Sx.own 16 19 rfl).trans e16) hrun) (Y.RT.fin (by subst hTT; exact ⟨t0, c0, t1, c1, t2, c2, t3, c3, hV2, (g.only _).trans hon, hO0.after hon hbB, hO1.after hon hbB, hO2.after hon hbB, hO3.after hon hbB⟩))
 rintro ac u w8 hs hd hl_ ho hT
 rw [hTT] at hT
 obtain ⟨t0, c0, t1, c1, t2, c2, t3, c3, hV2, hon, hO0, hO1, hO2, hO3⟩ := hT
 clear hTT
 replace F : Fr ac 20 [(2, Vp w6.heap.size)] := X.fr hs hd hl_ _ (by kernel_rfl)
 clear hs hd hl_ ho
 replace G := Y.Only.up G hon (by omega)
 refine X.thenN ?_
 refine Y.ret ?_
 exact Y.ret0 (v := .agg #[.slice t0 p.nt c0, .slice t1 p.nh c1, .slice t2 p.nb c2, .slice t3 p.nl c3]) F (Y.rcl F rfl (by kernel_rfl) (ownP_load hV2 (Try.agg27 _) (Try.siz27 _) rfl)) ⟨t0, t1, t2, t3, c0, c1, c2, c3, rfl, ⟨hO0.lower hgL, hO1.lower hgL, hO2.lower hgL, hO3.lower hgL, hP.s1, hP.s2⟩, G⟩
end
section
open Go.RowKit

theorem large_far {p : Pb} (h : largeB p = false) : farB p = false := by
  cases e : farB p with
  | false => rfl
  | true => unfold largeB at h; rw [e] at h; cases h
theorem large_sz {p : Pb} (h : largeB p = false) : SmlP p := far_sz (large_far h)
theorem large_pl {p : Pb} (h : largeB p = false) : chkE p = 0 → p.nt ≤ 5 ∧ p.nh ≤ 4 := fun hc => by
  simp [largeB, hc] at h
  omega
end
section
open Go.RowKit
end
section
set_option linter.unusedVariables false
open Go.RowKit
section
variable {w W W' : World} {a b c d e f i : Nat} {Ta Tb Tc Td Te : Value → World → Prop} {done : Nat → Bool} {u : Nat → Value} {v : Value}
end
end
section
set_option linter.unusedVariables false
open Go.RowKit
section
variable {cb : Nat} {s : Int} {O Kp : Nat → Prop} {W W' : World}
end
end
section
set_option linter.unusedVariables false
open Go.RowKit
section
variable (ok : List Int → Bool) (dif : List Int → Int)
end
end
section
open Go.RowKit

section
variable {p : Pb} {plan : List Int} {host : Int}
end
end
section
open Go.RowKit

theorem all_drop {xs : List Value} (h : (xs.all fun v => v.oneCell') = true) (k : Nat) : ((xs.drop k).all fun v => v.oneCell') = true := List.all_eq_true.2 fun v hv => List.all_eq_true.1 h v (List.mem_of_mem_drop hv)
end
section
open Go.RowKit
end
section
open Go.RowKit

section
variable {E : List BegE} {plan : List Int} {host mv : Int} {i bn bc : Nat} {ba : Option Addr} {x : BegE}
end
end
section
set_option linter.unusedVariables false
open Go.RowKit
theorem onS_mono {g : Nat → Int} {xs : List Int} {x h : Int} (hg : 0 ≤ g xs.length) : onS g xs h xs.length ≤ onS g (xs ++ [x]) h (xs ++ [x]).length := by
  rw [onS_end]; split <;> omega
/-- what is hopeless stays so -/
theorem hope_mono {p : Pb} (hp : PbOk p) {xs : List Int} {x : Int} (hl : xs.length < p.nt) (h : hopeB p (tim p) xs = true) : hopeB p (tim p) (xs ++ [x]) = true := by
  unfold hopeB at h ⊢
  rw [Bool.not_eq_true'] at h ⊢
  rw [Bool.and_eq_false_iff, Bool.and_eq_false_iff] at h ⊢
  have hm := hp.tm xs.length hl
  have ht := hp.tt xs.length hl
  rcases h with (h | h) | h
  · refine .inl (.inl ?_)
    cases e : allN (fitB p (tim p) (xs ++ [x])) p.nh with
    | false => rfl
    | true =>
      rw [← h]
      refine (allN_iff.2 fun i hi => ?_).symm
      have := allN_iff.1 e i hi
      simp only [fitB, Bool.and_eq_true, decide_eq_true_eq] at this ⊢
      have m1 := onS_mono (g := fun i => p.tv i 1) (xs := xs) (x := x) (h := (i : Int)) hm.1
      have m2 := onS_mono (g := tim p) (xs := xs) (x := x) (h := (i : Int)) ht.1
      omega
  · refine .inl (.inr ?_)
    cases e : allN (lvlB p (xs ++ [x])) (xs ++ [x]).length with
    | false => rfl
    | true =>
      rw [← h]
      refine (allN_iff.2 fun i hi => ?_).symm
      have := allN_iff.1 e i (by simp; omega)
      unfold lvlB at this ⊢
      rwa [xg_app hi] at this
  · refine .inr ?_
    cases e : allN (keptB p (xs ++ [x])) p.nb with
    | false => rfl
    | true =>
      rw [← h]
      refine (allN_iff.2 fun j hj => ?_).symm
      have := allN_iff.1 e j hj
      have ha := hp.ba j hj
      have hb := hp.bt j hj
      have hk := hp.bk j hj
      unfold keptB at this ⊢
      have hl2 : ((xs ++ [x]).length : Int) = xs.length + 1 := by simp
      by_cases c1 : (xs.length : Int) ≤ p.bv j 1
      · rw [if_pos c1]
      · have c1' : ¬ ((xs ++ [x]).length : Int) ≤ p.bv j 1 := by omega
        rw [if_neg c1]
        rw [if_neg c1', xg_app (show (p.bv j 1).toNat < xs.length by omega)] at this
        by_cases c4 : p.bv j 0 = 4
        · rw [if_pos c4] at this ⊢; exact this
        · rw [if_neg c4] at this ⊢
          by_cases c5 : p.bv j 0 = 5
          · rw [if_pos c5] at this ⊢; exact this
          · rw [if_neg c5] at this ⊢
            have hb := hb (by omega)
            by_cases c2 : (xs.length : Int) ≤ p.bv j 2
            · rw [if_pos c2]
            · have c2' : ¬ ((xs ++ [x]).length : Int) ≤ p.bv j 2 := by omega
              rw [if_neg c2]
              rw [if_neg c2', xg_app (show (p.bv j 2).toNat < xs.length by omega)] at this
              exact this
theorem allF_in {p : Pb} (hp : PbOk p) : ∀ (m : Nat) (xs ys : List Int), xs.length + m = p.nt → ys.length = m → HosOk p (xs ++ ys) → hopeB p (tim p) (xs ++ ys) = false → (xs ++ ys) ∈ allF p.nh (hopeB p (tim p)) m xs := by
  intro m
  induction m with
  | zero =>
    intro xs ys h1 h2 hx hh
    have : ys = [] := List.eq_nil_of_length_eq_zero h2
    subst this
    rw [List.append_nil] at hh ⊢
    unfold allF; rw [if_neg (by rw [hh]; decide)]; simp
  | succ m ih =>
    intro xs ys h1 h2 hx hh
    cases ys with
    | nil => simp at h2
    | cons y ys =>
      have e : xs ++ y :: ys = (xs ++ [y]) ++ ys := by simp
      have hxs : hopeB p (tim p) xs = false := by
        have hpre : ∀ (ys xs : List Int), xs.length + ys.length ≤ p.nt → hopeB p (tim p) xs = true → hopeB p (tim p) (xs ++ ys) = true := by
          intro ys
          induction ys with
          | nil => intro xs _ h; simpa using h
          | cons z ys ih2 =>
            intro xs hl h
            rw [show xs ++ z :: ys = (xs ++ [z]) ++ ys by simp]
            exact ih2 (xs ++ [z]) (by simp at hl ⊢; omega) (hope_mono hp (by simp at hl; omega) h)
        cases q : hopeB p (tim p) xs with
        | false => rfl
        | true => rw [hpre (y :: ys) xs (by omega) q] at hh; cases hh
      have hy := hx xs.length (by simp)
      have hxy : xg (xs ++ y :: ys) xs.length = y := by unfold xg; rw [List.getElem?_append_right (Nat.le_refl _)]; simp
      rw [hxy] at hy
      unfold allF
      rw [if_neg (by rw [hxs]; decide)]
      refine flatN_mem.2 ⟨y.toNat, by omega, ?_⟩
      rw [e] at hx hh ⊢
      have ey : ((y.toNat : Nat) : Int) = y := by omega
      rw [ey]
      exact ih (xs ++ [y]) ys (by simp; omega) (by simpa using h2) hx hh
/-- the list has all that are allowed -/
theorem allP_iff {p : Pb} (hp : PbOk p) {x : List Int} : x ∈ allP p ↔ HosOk p x ∧ x.length = p.nt ∧ hopeB p (tim p) x = false :=
  ⟨mem_allP, fun ⟨h1, h2, h3⟩ => by
    have := allF_in hp p.nt [] x (by simp) h2 (by simpa using h1) (by simpa using h3)
    rw [List.nil_append] at this
    exact this⟩
theorem srtK_mem {key : List Int → Int × Int} {l : List (List Int)} {x : List Int} (h : x ∈ l) : (key x, x) ∈ srtK key l := by
  have hm : ∀ (l : List (List Int)) (s : List ((Int × Int) × List Int)), (∀ y ∈ s, y ∈ l.foldl (fun s x => insR s (key x, x)) s) ∧ (x ∈ l → (key x, x) ∈ l.foldl (fun s x => insR s (key x, x)) s) := by
    intro l
    induction l with
    | nil => intro s; exact ⟨fun y hy => hy, fun h => by cases h⟩
    | cons a l ih =>
      intro s
      have hin : ∀ y, y ∈ s ∨ y = (key a, a) → y ∈ insR s (key a, a) := fun y hy => by
        unfold insR insAt
        rw [List.mem_append, List.mem_cons]
        rcases hy with hy | hy
        · rw [← List.take_append_drop (posR s (key a, a).1 s.length) s, List.mem_append] at hy
          rcases hy with hy | hy
          · exact .inl hy
          · exact .inr (.inr hy)
        · exact .inr (.inl hy)
      obtain ⟨h1, h2⟩ := ih (insR s (key a, a))
      refine ⟨fun y hy => h1 y (hin y (.inl hy)), fun hx => ?_⟩
      rcases List.mem_cons.1 hx with rfl | hx
      · exact h1 _ (hin _ (.inr rfl))
      · exact h2 hx
  exact (hm l []).2 h
theorem head_min {α : Type} {l : List ((Int × Int) × α)} (hs : Sorted l) {y z : (Int × Int) × α} (hy : l[0]? = some y) (hz : z ∈ l) : ltK z.1 y.1 = false := by
  obtain ⟨i, hi⟩ := List.getElem?_of_mem hz
  cases i with
  | zero => rw [hi] at hy; injection hy with hy; subst hy; rw [ltK_false]; omega
  | succ i => exact hs.get (Nat.succ_pos i) hy hi
end
section
set_option linter.unusedVariables false
open Go.RowKit
/-- which bond goes -/
def bonI (p : Pb) (b : Int) : Prop := 0 ≤ b ∧ b < p.nb
instance (p : Pb) (b : Int) : Decidable (bonI p b) := inferInstanceAs (Decidable (_ ∧ _))
/-- the numbers of a host, larger -/
def moV (p : Pb) (m0 m1 m2 : Int) (i r : Nat) : Int := if r = 1 then max (p.hv i 1) (min m0 100000) else if r = 2 then max (p.hv i 2) (min m1 100000) else if r = 3 then max (p.hv i 3) (min m2 4) else p.hv i r
/-- the bonds without one -/
def lesV (p : Pb) (b : Int) (j r : Nat) : Int := if bonI p b ∧ b.toNat ≤ j then p.bv (j + 1) r else p.bv j r
def eP (p : Pb) (b m0 m1 m2 : Int) : Pb := { p with nb := if bonI p b then p.nb - 1 else p.nb, bv := lesV p b, hv := moV p m0 m1 m2 }
section
variable {p : Pb} {b m0 m1 m2 : Int}
theorem les_ex {j : Nat} (hj : j < (eP p b m0 m1 m2).nb) : ∃ k, k < p.nb ∧ ∀ r, (eP p b m0 m1 m2).bv j r = p.bv k r := by
  simp only [eP] at hj
  by_cases h : bonI p b
  · rw [if_pos h] at hj
    by_cases h2 : b.toNat ≤ j
    · exact ⟨j + 1, by omega, fun r => if_pos ⟨h, h2⟩⟩
    · exact ⟨j, by omega, fun r => if_neg (fun e => h2 e.2)⟩
  · rw [if_neg h] at hj
    exact ⟨j, hj, fun r => if_neg (fun e => h e.1)⟩
theorem e_sml (h : SmlP p) : SmlP (eP p b m0 m1 m2) := by
  obtain ⟨h1, h2, h3, h4⟩ := h
  refine ⟨h1, h2, ?_, h4⟩
  simp only [eP]; split <;> omega
theorem amt_max {x y : Int} (h : amtB x = true) : amtB (max x (min y 100000)) = true := by rw [amtB_iff] at *; omega
theorem lev_max {x y : Int} (h : levB x = true) : levB (max x (min y 4)) = true := by rw [levB_iff] at *; omega
theorem e_chk (h : chkE p = 0) : chkE (eP p b m0 m1 m2) = 0 := by
  unfold chkE at h
  split at h
  · cases h
  rename_i h0
  split at h
  · cases h
  rename_i h1
  split at h
  · cases h
  rename_i h2
  split at h
  · cases h
  rename_i h3
  split at h
  · cases h
  rename_i h4
  unfold chkE
  have hb : (eP p b m0 m1 m2).nb ≤ p.nb := by simp only [eP]; split <;> omega
  have e1 : allN (taskB (eP p b m0 m1 m2)) (eP p b m0 m1 m2).nt = true := (by simpa using h1 : allN (taskB p) p.nt = true)
  have e2 : allN (hostB (eP p b m0 m1 m2)) (eP p b m0 m1 m2).nh = true := by
    refine allN_iff.2 fun i hi => ?_
    have := allN_iff.1 (by simpa using h2 : allN (hostB p) p.nh = true) i hi
    simp only [hostB, Bool.and_eq_true] at this ⊢
    obtain ⟨⟨⟨⟨⟨⟨a1, a2⟩, a3⟩, a4⟩, a5⟩, a6⟩, a7⟩ := this
    exact ⟨⟨⟨⟨⟨⟨a1, a2⟩, amt_max a3⟩, amt_max a4⟩, a5⟩, a6⟩, lev_max a7⟩
  have e3 : allN (bondB (eP p b m0 m1 m2)) (eP p b m0 m1 m2).nb = true := by
    refine allN_iff.2 fun j hj => ?_
    obtain ⟨k, hk, hv⟩ := les_ex hj
    have := allN_iff.1 (by simpa using h3 : allN (bondB p) p.nb = true) k hk
    simp only [bondB, isT, isH, hv] at this ⊢
    exact this
  have e4 : allN (talkB (eP p b m0 m1 m2)) (eP p b m0 m1 m2).nl = true := (by simpa using h4 : allN (talkB p) p.nl = true)
  rw [if_neg (by show ¬ (10 < p.nt ∨ 6 < p.nh ∨ _ ∨ 30 < p.nl); omega), if_neg (by rw [e1]; decide), if_neg (by rw [e2]; decide), if_neg (by rw [e3]; decide), if_neg (by rw [e4]; decide)]
theorem e_bnd {xs : List Int} : bndV (eP p b m0 m1 m2) xs = bndV p xs := rfl
theorem e_hos {xs : List Int} (h : HosOk p xs) : HosOk (eP p b m0 m1 m2) xs := h
theorem e_hope {xs : List Int} (h : hopeB p (tim p) xs = false) : hopeB (eP p b m0 m1 m2) (tim (eP p b m0 m1 m2)) xs = false := by
  unfold hopeB at h ⊢
  rw [Bool.not_eq_false', Bool.and_eq_true, Bool.and_eq_true] at h ⊢
  obtain ⟨⟨h1, h2⟩, h3⟩ := h
  refine ⟨⟨allN_iff.2 fun i hi => ?_, allN_iff.2 fun i hi => ?_⟩, allN_iff.2 fun j hj => ?_⟩
  · have := allN_iff.1 h1 i hi
    simp only [fitB, Bool.and_eq_true, decide_eq_true_eq] at this ⊢
    have e1 : (eP p b m0 m1 m2).hv i 1 = max (p.hv i 1) (min m0 100000) := rfl
    have e2 : (eP p b m0 m1 m2).hv i 2 = max (p.hv i 2) (min m1 100000) := rfl
    rw [e1, e2]
    have t1 : onS (fun k => (eP p b m0 m1 m2).tv k 1) xs i xs.length = onS (fun k => p.tv k 1) xs i xs.length := rfl
    have t2 : onS (tim (eP p b m0 m1 m2)) xs i xs.length = onS (tim p) xs i xs.length := rfl
    rw [t1, t2]
    omega
  · have := allN_iff.1 h2 i hi
    simp only [lvlB, decide_eq_true_eq] at this ⊢
    have e1 : (eP p b m0 m1 m2).hv (xg xs i).toNat 3 = max (p.hv (xg xs i).toNat 3) (min m2 4) := rfl
    have t1 : (eP p b m0 m1 m2).tv i 3 = p.tv i 3 := rfl
    rw [e1, t1]
    omega
  · obtain ⟨k, hk, hv⟩ := les_ex hj
    have := allN_iff.1 h3 k hk
    have hz : ∀ i, (eP p b m0 m1 m2).hv i 4 = p.hv i 4 := fun i => rfl
    unfold keptB at this ⊢
    simp only [hv, hz]
    exact this
theorem srtK_from {key : List Int → Int × Int} {l : List (List Int)} {y : (Int × Int) × List Int} (h : y ∈ srtK key l) : ∃ x ∈ l, y = (key x, x) := by
  have hm : ∀ (l m : List (List Int)) (s : List ((Int × Int) × List Int)), (∀ y ∈ s, ∃ x ∈ m, y = (key x, x)) → ∀ y ∈ l.foldl (fun s x => insR s (key x, x)) s, ∃ x ∈ m ++ l, y = (key x, x) := by
    intro l
    induction l with
    | nil => intro m s h y hy; rw [List.append_nil]; exact h y hy
    | cons a l ih =>
      intro m s h y hy
      have := ih (m ++ [a]) (insR s (key a, a)) (fun z hz => by
        unfold insR insAt at hz
        rcases List.mem_append.1 hz with h1 | h1
        · obtain ⟨x, hx, e⟩ := h z (List.mem_of_mem_take h1); exact ⟨x, List.mem_append.2 (.inl hx), e⟩
        · rcases List.mem_cons.1 h1 with h1 | h1
          · exact ⟨a, by simp, h1⟩
          · obtain ⟨x, hx, e⟩ := h z (List.mem_of_mem_drop h1); exact ⟨x, List.mem_append.2 (.inl hx), e⟩) y hy
      simpa using this
  obtain ⟨x, hx, e⟩ := hm l [] [] (fun y hy => by simp at hy) y h
  exact ⟨x, by simpa using hx, e⟩
/-- what the best plan answers: its parts -/
theorem best_opt (h : chkE p = 0) (k : (bestR p).2.2 = 0) : HosOk p (bestR p).1 ∧ (bestR p).1.length = p.nt ∧ hopeB p (tim p) (bestR p).1 = false ∧ (bestR p).2.1 = bndV p (bestR p).1 ∧ ∀ x ∈ allP p, bndV p (bestR p).1 ≤ bndV p x := by
  cases f : (firR p).2.2 with
  | false => rw [best_no h f] at k; cases k
  | true =>
    rw [best_yes h f]
    unfold firR at f ⊢
    cases hs : srtK (keyC p) (allP p) with
    | nil => rw [hs] at f; cases f
    | cons y t =>
      have hm : ∀ x ∈ allP p, ltK (keyC p x) y.1 = false := fun x hx => by
        have := head_min (z := (keyC p x, x)) (srtK_sorted (keyC p) (allP p)) (y := y) (by rw [hs]; rfl) (srtK_mem hx)
        exact this
      have hy : ∃ x ∈ allP p, y = (keyC p x, x) := by
        have : y ∈ srtK (keyC p) (allP p) := by rw [hs]; simp
        exact srtK_from this
      obtain ⟨x, hx, rfl⟩ := hy
      obtain ⟨a1, a2, a3⟩ := mem_allP hx
      refine ⟨a1, a2, a3, rfl, fun z hz => ?_⟩
      have := hm z hz
      simp only [keyC_lt, decide_eq_false_iff_not] at this
      show bndV p x ≤ bndV p z
      omega
theorem best_e (h : chkE p = 0) : (bestR p).2.2 = 0 ∨ (bestR p).2.2 = 3 := by
  cases f : (firR p).2.2 with
  | false => right; rw [best_no h f]
  | true => left; rw [best_yes h f]
theorem best_some (h : chkE p = 0) {x : List Int} (hx : x ∈ allP p) : (bestR p).2.2 = 0 := by
  cases f : (firR p).2.2 with
  | true => rw [best_yes h f]
  | false =>
    unfold firR at f
    cases hs : srtK (keyC p) (allP p) with
    | cons y t => rw [hs] at f; cases f
    | nil => have := srtK_len (keyC p) (allP p); rw [hs] at this; have h0 := List.eq_nil_of_length_eq_zero this.symm; rw [h0] at hx; simp at hx
/-- the law -/
theorem easier_law (h : chkE p = 0) (k : (bestR p).2.2 = 0) : (bestR (eP p b m0 m1 m2)).2.2 = 0 ∧ whoE (eP p b m0 m1 m2) (bestR p).1 = 0 ∧ allowV (eP p b m0 m1 m2) (bestR p).1 = true ∧ (bestR (eP p b m0 m1 m2)).2.1 ≤ (bestR p).2.1 := by
  obtain ⟨a1, a2, a3, a4, a5⟩ := best_opt h k
  have hc := e_chk (b := b) (m0 := m0) (m1 := m1) (m2 := m2) h
  have hq := chk_ok hc
  have hin : (bestR p).1 ∈ allP (eP p b m0 m1 m2) := (allP_iff hq).2 ⟨e_hos a1, a2, e_hope a3⟩
  have k2 := best_some hc hin
  obtain ⟨b1, b2, b3, b4, b5⟩ := best_opt hc k2
  have hw : whoE (eP p b m0 m1 m2) (bestR p).1 = 0 := by
    have hb : begE (eP p b m0 m1 m2) (bestR p).1 = 0 := by
      unfold begE
      rw [if_neg (by rw [hc]; decide), if_neg]
      rintro (h9 | h9)
      · have : (eP p b m0 m1 m2).nt = p.nt := rfl
        omega
      · rw [hosB_iff.2 (e_hos a1)] at h9; cases h9
    unfold whoE
    rw [if_neg (by rw [hb]; decide), if_neg (by show ¬ _ < p.nt; omega)]
  refine ⟨k2, hw, ?_, ?_⟩
  · unfold allowV; rw [hw, e_hope a3]; rfl
  · rw [b4, a4]
    have := b5 _ hin
    rwa [e_bnd] at this
end
end
section
set_option linter.unusedVariables false
open Go.RowKit
section
variable {p : Pb} {xs : List Int}
end
end
section
set_option linter.unusedVariables false
open Go.RowKit
section
variable {w W : World} {B B' e e' k k' n n' m c : Nat} {a : Option Addr} {v v' : Value} {xs xs' : List Value} {p : Pb} {b m0 m1 m2 : Int}
/-- the front of a row that is not empty, empty or not -/
theorem OwnR.takeS (h : OwnR W B e k (.slice a n c) n xs) (hm : m ≤ n) (h0 : 0 < n) : OwnR W B e k (.slice a m c) m (xs.take (m * k)) := by
  have hl := h.len
  refine ⟨by rw [List.length_take, hl]; exact Nat.min_eq_left (Nat.mul_le_mul_right _ hm), ?_⟩
  rcases h.2 with ⟨_, h1⟩ | ⟨g, cap, cur, e1, h2, h3, h4, h5, h6, h7⟩
  · omega
  · injection e1 with e1 e2 e3
    subst e1 e3
    refine .inr ⟨g, c, cur, rfl, h2, h3, Nat.le_trans hm h4, h5, h6, ?_⟩
    rw [← h7, List.take_take, Nat.min_eq_left (Nat.mul_le_mul_right _ hm)]
/-- rows of different things lie apart -/
theorem OwnR.apart (h : OwnR w B e k v n xs) (h' : OwnR w B' e' k' v' n' xs') (he : e ≠ e') {b : Nat} (hb : v.ownBlock = some b) : v'.ownBlock ≠ some b := by
  intro hb'
  rcases h.2 with ⟨rfl, _⟩ | ⟨g, cap, cur, rfl, _, h3, _⟩
  · simp [Value.ownBlock] at hb
  · rcases h'.2 with ⟨rfl, _⟩ | ⟨g', cap', cur', rfl, _, h3', _⟩
    · simp [Value.ownBlock] at hb'
    · simp [Value.ownBlock] at hb hb'
      subst hb hb'
      rw [h3] at h3'
      injection h3' with h3'
      injection h3' with _ h4
      exact he h4
/-- the bonds without one: those before it and those behind it -/
theorem les_rows (hb : bonI p b) : (tbL (bvV p) p.nb 3).take (b.toNat * 3) ++ (tbL (bvV p) p.nb 3).drop ((b.toNat + 1) * 3) = tbL (bvV (eP p b m0 m1 m2)) (p.nb - 1) 3 := by
  obtain ⟨h1, h2⟩ := hb
  have hlt : b.toNat < p.nb := by omega
  have hL : (tbL (bvV p) p.nb 3).length = p.nb * 3 := tbL_len
  apply List.ext_getElem?
  intro j
  by_cases hj : j < b.toNat * 3
  · rw [List.getElem?_append_left (by rw [List.length_take, hL]; omega), List.getElem?_take_of_lt hj]
    simp only [tbL]
    rw [List.getElem?_map, List.getElem?_map, List.getElem?_range (by omega), List.getElem?_range (by omega)]
    have h3 : ¬ b.toNat ≤ j / 3 := by omega
    simp only [Option.map_some, bvV, eP, lesV, h3, and_false, if_false]
  · by_cases hj2 : j < (p.nb - 1) * 3
    · rw [List.getElem?_append_right (by rw [List.length_take, hL]; omega), List.length_take, hL, List.getElem?_drop]
      rw [show (b.toNat + 1) * 3 + (j - min (b.toNat * 3) (p.nb * 3)) = j + 3 by omega]
      simp only [tbL]
      rw [List.getElem?_map, List.getElem?_map, List.getElem?_range (by omega), List.getElem?_range (by omega)]
      have h3 : b.toNat ≤ j / 3 := by omega
      have h4 : bonI p b := ⟨h1, h2⟩
      simp only [Option.map_some, bvV, eP, lesV, h3, h4, and_self, if_true, show (j + 3) / 3 = j / 3 + 1 by omega, show (j + 3) % 3 = j % 3 by omega]
    · rw [List.getElem?_eq_none, List.getElem?_eq_none]
      · rw [tbL_len]; omega
      · rw [List.length_append, List.length_take, List.length_drop, hL]; omega
/-- the end of a row of the call's own, as a source -/
theorem OwnR.tailK {i : Nat} (h : OwnR W B e k (.slice a n c) n xs) (hi : i ≤ n) (hk : 0 < k) : ((if c = i then a else a.map fun x => x.add (i * k)) = none → n - i = 0) ∧ ∀ ad, (if c = i then a else a.map fun x => x.add (i * k)) = some ad → ∀ j u, (xs.drop (i * k))[j]? = some u → W.cell? (ad.add j) = some u := by
  have hl := h.len
  rcases h.2 with ⟨h2, h3⟩ | ⟨g, cap, cur, h1, h2, h3, h4, _, h6, h7⟩
  · injection h2 with h2 _ h4
    subst h2 h4
    refine ⟨fun _ => by omega, fun ad e0 => ?_⟩
    have : i = 0 := by omega
    subst this
    simp at e0
  · injection h1 with h1 _ hc
    subst h1 hc
    refine ⟨fun e0 => ?_, fun ad e0 j u hu => ?_⟩
    · split at e0
      · cases e0
      · cases e0
    · rw [List.getElem?_drop] at hu
      have hj : i * k + j < n * k := by have := (List.getElem?_eq_some_iff.1 hu).1; omega
      have hin : i < n := by
        have h9 : i * k < n * k := by omega
        exact Nat.lt_of_mul_lt_mul_right h9
      rw [if_neg (by omega)] at e0
      simp only [Option.map_some, Option.some.injEq] at e0
      subst e0
      rw [addr_add0, show (⟨g, i * k, none⟩ : Addr).add j = ⟨g, i * k + j, none⟩ from Y.addr_add _ _ _]
      rw [← h7, List.getElem?_take_of_lt hj] at hu
      simp [World.cell?, h3]
      simpa using hu
/-- the cells of the hosts, when t numbers have been turned: three for each -/
def hkV (p : Pb) (m0 m1 m2 : Int) (i q : Nat) (j : Nat) : Value :=
  if (j / 6 < i ∧ (j % 6 = 1 ∨ j % 6 = 2 ∨ j % 6 = 3)) ∨ (j / 6 = i ∧ 1 ≤ j % 6 ∧ j % 6 ≤ q) then .int .i64 (moV p m0 m1 m2 (j / 6) (j % 6)) else hvV p (j / 6) (j % 6)
theorem hk_at {i q r : Nat} (hr : r < 6) : hkV p m0 m1 m2 i q (i * 6 + r) = if 1 ≤ r ∧ r ≤ q then .int .i64 (moV p m0 m1 m2 i r) else hvV p i r := by
  unfold hkV
  rw [show (i * 6 + r) / 6 = i by omega, show (i * 6 + r) % 6 = r by omega]
  by_cases h : 1 ≤ r ∧ r ≤ q
  · rw [if_pos h, if_pos (.inr ⟨rfl, h.1, h.2⟩)]
  · rw [if_neg h, if_neg]
    rintro (⟨h1, _⟩ | ⟨_, h1⟩)
    · omega
    · exact h h1
theorem hk_set {i r : Nat} (hr : r < 3) (j : Nat) : (if j = i * 6 + (r + 1) then Value.int .i64 (moV p m0 m1 m2 i (r + 1)) else hkV p m0 m1 m2 i r j) = hkV p m0 m1 m2 i (r + 1) j := by
  by_cases e : j = i * 6 + (r + 1)
  · subst e
    rw [if_pos rfl, hk_at (by omega), if_pos (by omega)]
  · rw [if_neg e]
    unfold hkV
    by_cases h : (j / 6 < i ∧ (j % 6 = 1 ∨ j % 6 = 2 ∨ j % 6 = 3)) ∨ (j / 6 = i ∧ 1 ≤ j % 6 ∧ j % 6 ≤ r)
    · rw [if_pos h, if_pos (by omega)]
    · rw [if_neg h, if_neg (by omega)]
theorem hk_next {i : Nat} : hkV p m0 m1 m2 i 3 = hkV p m0 m1 m2 (i + 1) 0 := by
  funext j
  unfold hkV
  by_cases h : (j / 6 < i ∧ (j % 6 = 1 ∨ j % 6 = 2 ∨ j % 6 = 3)) ∨ (j / 6 = i ∧ 1 ≤ j % 6 ∧ j % 6 ≤ 3)
  · rw [if_pos h, if_pos (by omega)]
  · rw [if_neg h, if_neg (by omega)]
theorem hk_end {j r : Nat} (hj : j < p.nh) (hr : r < 6) : hkV p m0 m1 m2 p.nh 0 (j * 6 + r) = hvV (eP p b m0 m1 m2) j r := by
  unfold hkV
  rw [show (j * 6 + r) / 6 = j by omega, show (j * 6 + r) % 6 = r by omega]
  have : r = 0 ∨ r = 1 ∨ r = 2 ∨ r = 3 ∨ r = 4 ∨ r = 5 := by omega
  rcases this with rfl | rfl | rfl | rfl | rfl | rfl
  · rw [if_neg (by omega)]; rfl
  · rw [if_pos (.inl ⟨hj, by omega⟩)]; rfl
  · rw [if_pos (.inl ⟨hj, by omega⟩)]; rfl
  · rw [if_pos (.inl ⟨hj, by omega⟩)]; rfl
  · rw [if_neg (by omega)]; rfl
  · rw [if_neg (by omega)]; rfl
/-- the copy of the hosts, when those before i have been turned, and q numbers of host i -/
def HkR (W : World) (B : Nat) (p : Pb) (m0 m1 m2 : Int) (ha : Option Addr) (i q : Nat) : Prop := p.nh = 0 ∨ ∃ g, ha = some ⟨g, 0, none⟩ ∧ B ≤ g ∧ OwnP W g (p.nh * 6) (hkV p m0 m1 m2 i q)
theorem hk_start (h : OwnR W B 53 6 (.slice a p.nh c) p.nh (tbL (hvV p) p.nh 6)) : HkR W B p m0 m1 m2 a 0 0 := by
  rcases h.shape with ⟨_, h1⟩ | ⟨g, c', e, h1, h2⟩
  · exact .inl h1
  · injection e with e
    subst e
    refine .inr ⟨g, rfl, h1, h.ownP fun j u hu => ?_⟩
    obtain ⟨_, rfl⟩ := tbL_get hu
    unfold hkV; rw [if_neg (by omega)]
theorem hk_tb (h : HkR W B p m0 m1 m2 a p.nh 0) (hc : p.nh ≤ c) (hl : p.nh ≤ 20) : TbAt W 6 a p.nh c (hvV (eP p b m0 m1 m2)) := by
  rcases h with h | ⟨g, rfl, _, hO⟩
  · exact ⟨hc, by omega, fun j hj => by omega⟩
  · refine ⟨hc, by omega, fun j hj => ⟨_, rfl, hO.lt, fun r hr => ?_⟩⟩
    rw [addr_add0, show (⟨g, j * 6, none⟩ : Addr).add r = ⟨g, j * 6 + r, none⟩ from Y.addr_add _ _ _, hO.cell (by omega), hk_end hj hr]
end
section
variable {W W' : World} {B : Nat} {p : Pb} {b m0 m1 m2 : Int} {ta ha ba la : Option Addr} {tc hc bc lc i r : Nat}
/-- what an address points to is not in block q -/
def Nq (a : Option Addr) (q : Nat) : Prop := ∀ ad, a = some ad → ad.block ≠ q
theorem Nq.own {a : Option Addr} {q n c x : Nat} (h : Nq a q) (hx : (Value.slice a n c).ownBlock = some x) : x ≠ q := by
  cases a with
  | none => simp [Value.ownBlock] at hx
  | some a => simp [Value.ownBlock] at hx; subst hx; exact h a rfl
theorem OwnR.nq {e k n c : Nat} {a : Option Addr} {xs : List Value} (h : OwnR W B e k (.slice a n c) n xs) : Nq a W.heap.size := fun ad e9 => by
  subst e9
  have := (h.ge (b := ad.block) rfl).2
  omega
/-- the easier problem while it is made: hosts before i are turned, and r numbers of host i; no row lies in block q -/
structure EpR (W : World) (B q : Nat) (p : Pb) (b m0 m1 m2 : Int) (ta ha ba la : Option Addr) (tc hc bc lc i r : Nat) : Prop where
  t : OwnR W B 74 4 (.slice ta p.nt tc) p.nt (tbL (tvV p) p.nt 4)
  o : OwnR W B 65 3 (.slice ba (eP p b m0 m1 m2).nb bc) (eP p b m0 m1 m2).nb (tbL (bvV (eP p b m0 m1 m2)) (eP p b m0 m1 m2).nb 3)
  l : OwnR W B 84 3 (.slice la p.nl lc) p.nl (tbL (lvV p) p.nl 3)
  h : HkR W B p m0 m1 m2 ha i r
  hc : p.nh ≤ hc
  ne : ∀ x, ha = some ⟨x, 0, none⟩ → (Value.slice ta p.nt tc).ownBlock ≠ some x ∧ (Value.slice ba (eP p b m0 m1 m2).nb bc).ownBlock ≠ some x ∧ (Value.slice la p.nl lc).ownBlock ≠ some x
  nq : Nq ta q ∧ Nq ha q ∧ Nq ba q ∧ Nq la q
  s1 : ∀ i, i < p.nt → (p.tn i).size ≤ 9223372036854775807
  s2 : ∀ i, i < p.nh → (p.hn i).size ≤ 9223372036854775807
variable {q : Nat}
/-- what is done to block q, or below B, leaves it -/
theorem EpR.only {S : Nat → Prop} (h : EpR W B q p b m0 m1 m2 ta ha ba la tc hc bc lc i r) (g : Only S W W') (hS : ∀ x, S x → x = q ∨ x < B) : EpR W' B q p b m0 m1 m2 ta ha ba la tc hc bc lc i r := by
  obtain ⟨n1, n2, n3, n4⟩ := h.nq
  refine ⟨h.t.only g fun x hx e => ?_, h.o.only g fun x hx e => ?_, h.l.only g fun x hx e => ?_, h.h.imp (fun z => z) fun ⟨z, h1, h2, h3⟩ => ⟨z, h1, h2, h3.only g fun e => ?_⟩, h.hc, h.ne, h.nq, h.s1, h.s2⟩
  · have h1 := (h.t.ge hx).1; have h2 := n1.own hx; rcases hS x e with h3 | h3 <;> omega
  · have h1 := (h.o.ge hx).1; have h2 := n3.own hx; rcases hS x e with h3 | h3 <;> omega
  · have h1 := (h.l.ge hx).1; have h2 := n4.own hx; rcases hS x e with h3 | h3 <;> omega
  · have h5 := n2 _ h1; rcases hS z e with h3 | h3
    · exact h5 h3
    · omega
theorem ep_start (hT : OwnR W B 74 4 (.slice ta p.nt tc) p.nt (tbL (tvV p) p.nt 4)) (hH : OwnR W B 53 6 (.slice ha p.nh hc) p.nh (tbL (hvV p) p.nh 6)) (hB : OwnR W B 65 3 (.slice ba (eP p b m0 m1 m2).nb bc) (eP p b m0 m1 m2).nb (tbL (bvV (eP p b m0 m1 m2)) (eP p b m0 m1 m2).nb 3))
    (hL : OwnR W B 84 3 (.slice la p.nl lc) p.nl (tbL (lvV p) p.nl 3)) (nq : Nq ta q ∧ Nq ha q ∧ Nq ba q ∧ Nq la q) (s1 : ∀ i, i < p.nt → (p.tn i).size ≤ 9223372036854775807) (s2 : ∀ i, i < p.nh → (p.hn i).size ≤ 9223372036854775807) : EpR W B q p b m0 m1 m2 ta ha ba la tc hc bc lc 0 0 :=
  ⟨hT, hB, hL, hk_start hH, hH.le, fun x e => by
    have hx : (Value.slice ha p.nh hc).ownBlock = some x := by rw [e]; rfl
    exact ⟨hH.apart hT (by decide) hx, hH.apart hB (by decide) hx, hH.apart hL (by decide) hx⟩, nq, s1, s2⟩
theorem PbOwn.nq (h : PbOwn W B p ta ha ba la tc hc bc lc) : Nq ta W.heap.size ∧ Nq ha W.heap.size ∧ Nq ba W.heap.size ∧ Nq la W.heap.size := ⟨h.t.nq, h.h.nq, h.b.nq, h.l.nq⟩
/-- no bond goes -/
theorem ep_no (h : PbOwn W B p ta ha ba la tc hc bc lc) (nq : Nq ta q ∧ Nq ha q ∧ Nq ba q ∧ Nq la q) (hn : ¬ bonI p b) : (eP p b m0 m1 m2).nb = p.nb ∧ EpR W B q p b m0 m1 m2 ta ha ba la tc hc bc lc 0 0 := by
  have e : (eP p b m0 m1 m2).nb = p.nb := if_neg hn
  refine ⟨e, ep_start h.t h.h ?_ h.l nq h.s1 h.s2⟩
  have e2 : bvV (eP p b m0 m1 m2) = bvV p := by
    funext j r; simp only [bvV, eP, lesV, hn, false_and, if_false]
  rw [e, e2]; exact h.b
/-- one goes -/
theorem ep_yes {ba2 : Option Addr} {bc2 n9 c9 : Nat} {W2 : World} (h : PbOwn W B p ta ha ba la tc hc bc lc) (nq : Nq ta q ∧ Nq ha q ∧ Nq ba q ∧ Nq la q) (hqW : q < W.heap.size) (hb : bonI p b) (hon : Only (fun x => (Value.slice ba n9 c9).ownBlock = some x) W W2)
    (hO : OwnR W2 B 65 3 (.slice ba2 (b.toNat + (p.nb - (b.toNat + 1))) bc2) (b.toNat + (p.nb - (b.toNat + 1))) ((tbL (bvV p) p.nb 3).take (b.toNat * 3) ++ (tbL (bvV p) p.nb 3).drop ((b.toNat + 1) * 3)))
    (hat : (Value.slice ba2 (b.toNat + (p.nb - (b.toNat + 1))) bc2).ownBlock = (Value.slice ba n9 c9).ownBlock ∨ (Value.slice ba2 (b.toNat + (p.nb - (b.toNat + 1))) bc2).ownBlock = some W.heap.size) :
    b.toNat + (p.nb - (b.toNat + 1)) = (eP p b m0 m1 m2).nb ∧ EpR W2 B q p b m0 m1 m2 ta ha ba2 la tc hc bc2 lc 0 0 := by
  have e : (eP p b m0 m1 m2).nb = p.nb - 1 := if_pos hb
  have e1 : b.toNat + (p.nb - (b.toNat + 1)) = p.nb - 1 := by obtain ⟨h1, h2⟩ := hb; omega
  have hn2 : Nq ba2 q := fun ad e9 => by
    subst e9
    rcases hat with hat | hat
    · exact nq.2.2.1.own (n := n9) (c := c9) (x := ad.block) hat.symm
    · simp [Value.ownBlock] at hat; omega
  rw [e1, les_rows (m0 := m0) (m1 := m1) (m2 := m2) hb, ← e] at hO
  have hap : ∀ x, (Value.slice ba n9 c9).ownBlock = some x → (Value.slice ba p.nb bc).ownBlock = some x := fun x hx => by cases ba with
    | none => simp [Value.ownBlock] at hx
    | some a => exact hx
  refine ⟨by rw [e1, e], ep_start (h.t.only hon fun x hx k => h.t.apart h.b (by decide) hx (hap x k)) (h.h.only hon fun x hx k => h.h.apart h.b (by decide) hx (hap x k)) hO (h.l.only hon fun x hx k => h.l.apart h.b (by decide) hx (hap x k)) ⟨nq.1, nq.2.1, hn2, nq.2.2.2⟩ h.s1 h.s2⟩
/-- one number of a host is turned -/
theorem EpR.set {g9 : Nat} (h : EpR W B q p b m0 m1 m2 ta (some ⟨g9, 0, none⟩) ba la tc hc bc lc i r) (hon : Only (fun x => x = g9) W W') (hB : B ≤ g9) (hO : OwnP W' g9 (p.nh * 6) (hkV p m0 m1 m2 i (r + 1))) : EpR W' B q p b m0 m1 m2 ta (some ⟨g9, 0, none⟩) ba la tc hc bc lc i (r + 1) := by
  obtain ⟨n1, n2, n3⟩ := h.ne g9 rfl
  exact ⟨h.t.only hon fun x hx e => n1 (by have e : x = g9 := e; subst e; exact hx), h.o.only hon fun x hx e => n2 (by have e : x = g9 := e; subst e; exact hx), h.l.only hon fun x hx e => n3 (by have e : x = g9 := e; subst e; exact hx), .inr ⟨g9, rfl, hB, hO⟩, h.hc, h.ne, h.nq, h.s1, h.s2⟩
theorem EpR.next (h : EpR W B q p b m0 m1 m2 ta ha ba la tc hc bc lc i 3) : EpR W B q p b m0 m1 m2 ta ha ba la tc hc bc lc (i + 1) 0 :=
  ⟨h.t, h.o, h.l, by have h1 := h.h; unfold HkR at h1 ⊢; rw [hk_next] at h1; exact h1, h.hc, h.ne, h.nq, h.s1, h.s2⟩
theorem EpR.row (h : EpR W B q p b m0 m1 m2 ta ha ba la tc hc bc lc i r) (h0 : ¬ p.nh = 0) : ∃ g, ha = some ⟨g, 0, none⟩ ∧ B ≤ g ∧ g ≠ q ∧ OwnP W g (p.nh * 6) (hkV p m0 m1 m2 i r) := by
  obtain ⟨g, h1, h2, h3⟩ := h.h.resolve_left h0
  exact ⟨g, h1, h2, h.nq.2.1 _ h1, h3⟩
/-- the easier problem is made -/
theorem EpR.done (h : EpR W B q p b m0 m1 m2 ta ha ba la tc hc bc lc p.nh 0) (hz : SmlP p) : PbAt W (eP p b m0 m1 m2) ta ha ba la tc hc bc lc := by
  have hz2 := e_sml (b := b) (m0 := m0) (m1 := m1) (m2 := m2) hz
  obtain ⟨h1, h2, h3, h4⟩ := hz
  obtain ⟨_, _, h5, _⟩ := hz2
  exact ⟨h.t.tb (by omega), hk_tb h.h h.hc h2, h.o.tb (by omega), h.l.tb (by omega), h.s1, h.s2⟩
end
end
end Go.Proofs.Ytodedneanlekdaa
