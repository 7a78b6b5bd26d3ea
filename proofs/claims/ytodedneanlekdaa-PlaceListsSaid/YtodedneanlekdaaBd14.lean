/- Several texts of this claim in one file. (1) Contracts: far, Large, SameInts. (2) Contracts: List, Count, SameRows. (3) Contracts: ints, Copy, Same. (4) Contract: the law about Check. (5) Contract: the law about List and Count. -/
import Derived.Test.YtodedneanlekdaaBd11
import Derived.Test.YtodedneanlekdaaBd13
import Derived.Test.YtodedneanlekdaaBd9
import Derived.Test.YtodedneanlekdaaBd5
namespace Go.Proofs.Ytodedneanlekdaa
set_option linter.unusedSimpArgs false
set_option linter.unusedVariables false
section
open Go.RowKit

set_option maxRecDepth 100000 in
set_option maxHeartbeats 1000000 in
theorem far_any (p : Pb) (ta ha ba la : Option Addr) (tc hc bc lc : Nat) (w : World) (hP : PbAt w p ta ha ba la tc hc bc lc) :
  Calls Try.prog 15 #[.agg #[.slice ta p.nt tc, .slice ha p.nh hc, .slice ba p.nb bc, .slice la p.nl lc]] w fun e w' => e = .returned (.bool (farB p)) ∧ Gr w w' := by
 have G := Gr.refl w
 have hpt := hP.t
 have hph := hP.h
 have hpb := hP.b
 have hpl := hP.l
 have hplen := hP.len
 obtain ⟨hn1, hn2, hn3, hn4⟩ := hplen
 have hcp1 := hpt.cap
 have hcp2 := hph.cap
 have hcp3 := hpb.cap
 have hcp4 := hpl.cap
 refine Y.calls 57 Try.func15 rfl rfl ?_
 intro ac F0
 have F : Fr ac 57 [(0, .agg #[.slice ta p.nt tc, .slice ha p.nh hc, .slice ba p.nb bc, .slice la p.nl lc])] := F0.sub _
 clear F0
 refine Y.sl ?_
 have hgs3 : w.heap.size ≤ w.heap.size := G.size
 refine Y.pv F (X.box rfl (F.ev 0 (.agg #[.slice ta p.nt tc, .slice ha p.nh hc, .slice ba p.nb bc, .slice la p.nl lc])) X.bx) ?_;clear F ac;intro ac F
 have hgs5 : w.heap.size ≤ w.heap.size := G.size
 have g := Gr.alloc w (.cells #[.slice ta p.nt tc, .slice ha p.nh hc, .slice ba p.nb bc, .slice la p.nl lc] 27)
 have hb := heap_alloc_new w (.cells #[.slice ta p.nt tc, .slice ha p.nh hc, .slice ba p.nb bc, .slice la p.nl lc] 27)
 have hbl : w.heap.size < (w.alloc (.cells #[.slice ta p.nt tc, .slice ha p.nh hc, .slice ba p.nb bc, .slice la p.nl lc] 27)).heap.size := by simp
 have hC2 : RCells (w.alloc (.cells #[.slice ta p.nt tc, .slice ha p.nh hc, .slice ba p.nb bc, .slice la p.nl lc] 27)) [(Ad w.heap.size 0, .slice ta p.nt tc), (Ad w.heap.size 1, .slice ha p.nh hc), (Ad w.heap.size 2, .slice ba p.nb bc), (Ad w.heap.size 3, .slice la p.nl lc)] := (RCells.nil w).box (b := w.heap.size) #[.slice ta p.nt tc, .slice ha p.nh hc, .slice ba p.nb bc, .slice la p.nl lc] 27 rfl
 generalize w.alloc (.cells #[.slice ta p.nt tc, .slice ha p.nh hc, .slice ba p.nb bc, .slice la p.nl lc] 27) = w6 at *
 replace G := G.trans g
 have hC := hC2
 clear hC2
 replace hpt := hpt.gr g
 replace hph := hph.gr g
 replace hpb := hpb.gr g
 replace hpl := hpl.gr g
 have hsz4 := hbl
 clear g hb hbl
 refine Y.pv F (X.assign rfl (X.kc (.bool false) rfl)) ?_;clear F ac;intro ac F
 refine Y.nt F [(1, Vp w.heap.size)] ?_;clear F ac;intro ac F
 refine Y.seq ?_
 refine Y.sl ?_
 refine Y.pv F (X.field rfl (F.ev 1 (Vp w.heap.size)) (X.fld Try.underlying27 rfl (Try.siz22 _) rfl rfl)) ?_;clear F ac;intro ac F
 refine Y.pv F (X.load rfl (F.ev 5 (Vp w.heap.size)) (X.ld1 (Try.agg22 _) (hC.at 0 rfl))) ?_;clear F ac;intro ac F
 refine Y.pv F (X.len1 Try.underlying22 rfl (F.ev 6 (.slice ta p.nt tc))) ?_;clear F ac;intro ac F
 refine Y.pv F (X.binop rfl (F.ev 7 (Vi p.nt)) (X.kc (Vi 20) rfl) (X.gtrI Try.underlying3 rfl)) ?_;clear F ac;intro ac F
 refine Y.pv F (X.move rfl (F.ev 8 (.bool (decide ((20 : Int) < p.nt))))) ?_;clear F ac;intro ac F
 cases h7 : decide ((20 : Int) < p.nt) with
 | false =>
  try rw [h7] at F
  have h7p : ¬ ((20 : Int) < p.nt) := of_decide_eq_false h7
  refine Y.pg F 4 9 false (X.field rfl (F.ev 1 (Vp w.heap.size)) (X.fld Try.underlying27 rfl (Try.siz23 _) rfl rfl)) ?_;clear F ac;intro ac F
  refine Y.pg F 4 9 false (X.load rfl (F.ev 10 (.pointer (some ⟨w.heap.size, 1, none⟩))) (X.ld1 (Try.agg23 _) (hC.at 1 rfl))) ?_;clear F ac;intro ac F
  refine Y.pg F 4 9 false (X.len1 Try.underlying23 rfl (F.ev 11 (.slice ha p.nh hc))) ?_;clear F ac;intro ac F
  refine Y.pg F 4 9 false (X.binop rfl (F.ev 12 (Vi p.nh)) (X.kc (Vi 20) rfl) (X.gtrI Try.underlying3 rfl)) ?_;clear F ac;intro ac F
  refine Y.pv F (X.pickF rfl (F.ev 9 (.bool false)) (F.ev 13 (.bool (decide ((20 : Int) < p.nh))))) ?_;clear F ac;intro ac F
  refine Y.pv F (X.move rfl (F.ev 14 (.bool (decide ((20 : Int) < p.nh))))) ?_;clear F ac;intro ac F
  cases h8 : decide ((20 : Int) < p.nh) with
  | false =>
   try rw [h8] at F
   have h8p : ¬ ((20 : Int) < p.nh) := of_decide_eq_false h8
   refine Y.pg F 10 15 false (X.field rfl (F.ev 1 (Vp w.heap.size)) (X.fld Try.underlying27 rfl (Try.siz24 _) rfl rfl)) ?_;clear F ac;intro ac F
   refine Y.pg F 10 15 false (X.load rfl (F.ev 16 (.pointer (some ⟨w.heap.size, 2, none⟩))) (X.ld1 (Try.agg24 _) (hC.at 2 rfl))) ?_;clear F ac;intro ac F
   refine Y.pg F 10 15 false (X.len1 Try.underlying24 rfl (F.ev 17 (.slice ba p.nb bc))) ?_;clear F ac;intro ac F
   refine Y.pg F 10 15 false (X.binop rfl (F.ev 18 (Vi p.nb)) (X.kc (Vi 40) rfl) (X.gtrI Try.underlying3 rfl)) ?_;clear F ac;intro ac F
   refine Y.pv F (X.pickF rfl (F.ev 15 (.bool false)) (F.ev 19 (.bool (decide ((40 : Int) < p.nb))))) ?_;clear F ac;intro ac F
   refine Y.pv F (X.move rfl (F.ev 20 (.bool (decide ((40 : Int) < p.nb))))) ?_;clear F ac;intro ac F
   cases h9 : decide ((40 : Int) < p.nb) with
   | false =>
    try rw [h9] at F
    have h9p : ¬ ((40 : Int) < p.nb) := of_decide_eq_false h9
    refine Y.pg F 16 21 false (X.field rfl (F.ev 1 (Vp w.heap.size)) (X.fld Try.underlying27 rfl (Try.siz25 _) rfl rfl)) ?_;clear F ac;intro ac F
    refine Y.pg F 16 21 false (X.load rfl (F.ev 22 (.pointer (some ⟨w.heap.size, 3, none⟩))) (X.ld1 (Try.agg25 _) (hC.at 3 rfl))) ?_;clear F ac;intro ac F
    refine Y.pg F 16 21 false (X.len1 Try.underlying25 rfl (F.ev 23 (.slice la p.nl lc))) ?_;clear F ac;intro ac F
    refine Y.pg F 16 21 false (X.binop rfl (F.ev 24 (Vi p.nl)) (X.kc (Vi 40) rfl) (X.gtrI Try.underlying3 rfl)) ?_;clear F ac;intro ac F
    refine Y.pv F (X.pickF rfl (F.ev 21 (.bool false)) (F.ev 25 (.bool (decide ((40 : Int) < p.nl))))) ?_;clear F ac;intro ac F
    refine Y.nt F [(1, Vp w.heap.size), (26, .bool (decide ((40 : Int) < p.nl)))] ?_;clear F ac;intro ac F
    cases h10 : decide ((40 : Int) < p.nl) with
    | false =>
     try rw [h10] at F
     have h10p : ¬ ((40 : Int) < p.nl) := of_decide_eq_false h10
     refine Y.condF (F.ev 26 (.bool false)) ?_
     refine Y.skip ?_
     refine X.thenN ?_
     refine Y.seq ?_
     refine Y.sg F [(1, Vp w.heap.size), (3, Vi 0)] (Y.pv F (X.assign rfl (X.kc (Vi 0) rfl)) fun ac F=>Y.fin F) ?_;clear F ac;intro ac F
     refine Y.block ?_
     refine Y.loop (fun me_ ac wr => ∃ (i : Nat), me_ = p.nt - i ∧ Only (fun b => False) w6 wr ∧ i ≤ p.nt ∧ allN (fun i => decide ((p.tn i).size ≤ 100)) i = true ∧ Fr ac 57 [(1, Vp w.heap.size), (3, Vi i)]) _ ⟨0, rfl, Only.refl _ _, Nat.zero_le _, rfl, F.sub _⟩ ?_
     have hptB1 := hpt
     have hphB1 := hph
     have hpbB1 := hpb
     have hplB1 := hpl
     have GB1 := G
     have hCB1 := hC
     clear F ac
     intro me_ ac w11 hI
     obtain ⟨i, rfl, hO1, h0i, hoki, F⟩ := hI
     replace G := GB1.trans (hO1.gr (fun _ _ h => h))
     replace hpt := (hP.t).gr G
     replace hph := (hP.h).gr G
     replace hpb := (hP.b).gr G
     replace hpl := (hP.l).gr G
     replace hC := (RCells.cons (hO1.cell (hCB1.at 0 rfl) (fun h => h)) (RCells.cons (hO1.cell (hCB1.at 1 rfl) (fun h => h)) (RCells.cons (hO1.cell (hCB1.at 2 rfl) (fun h => h)) (RCells.cons (hO1.cell (hCB1.at 3 rfl) (fun h => h)) (RCells.nil _)))))
     refine Y.seq ?_
     refine Y.sg F [(1, Vp w.heap.size), (3, Vi i), (31, .bool (decide ((i : Int) < p.nt)))] (by
      refine Y.pv F (X.move rfl (F.ev 3 (Vi i))) fun ac F=>?_
      refine Y.pv F (X.field rfl (F.ev 1 (Vp w.heap.size)) (X.fld Try.underlying27 rfl (Try.siz22 _) rfl rfl)) fun ac F=>?_
      refine Y.pv F (X.load rfl (F.ev 28 (Vp w.heap.size)) (X.ld1 (Try.agg22 _) (hC.at 0 rfl))) fun ac F=>?_
      refine Y.pv F (X.len1 Try.underlying22 rfl (F.ev 29 (.slice ta p.nt tc))) fun ac F=>?_
      refine Y.pv F (X.binop rfl (F.ev 27 (Vi i)) (F.ev 30 (Vi p.nt)) (X.lssI Try.underlying3 rfl)) fun ac F=>?_
      exact Y.fin F) ?_;clear F ac;intro ac F
     cases h12 : decide ((i : Int) < p.nt) with
     | false =>
      try rw [h12] at F
      have h12p : ¬ ((i : Int) < p.nt) := of_decide_eq_false h12
      obtain rfl : i = p.nt := by omega
      refine Y.condF (F.ev 31 (.bool false)) ?_
      refine Y.exit ?_
      refine X.thenX (X.thenX (X.blockX (X.thenN ?_)))
      refine Y.seq ?_
      refine Y.sg F [(1, Vp w.heap.size), (4, Vi 0)] (Y.pv F (X.assign rfl (X.kc (Vi 0) rfl)) fun ac F=>Y.fin F) ?_;clear F ac;intro ac F
      refine Y.block ?_
      refine Y.loop (fun me_ ac wr => ∃ (j : Nat), me_ = p.nh - j ∧ Only (fun b => False) w11 wr ∧ j ≤ p.nh ∧ allN (fun i => decide ((p.hn i).size ≤ 100)) j = true ∧ Fr ac 57 [(1, Vp w.heap.size), (4, Vi j)]) _ ⟨0, rfl, Only.refl _ _, Nat.zero_le _, rfl, F.sub _⟩ ?_
      have hptB1 := hpt
      have hphB1 := hph
      have hpbB1 := hpb
      have hplB1 := hpl
      have GB1 := G
      have hCB1 := hC
      clear F ac
      intro me_ ac w13 hI
      obtain ⟨j, rfl, hO1, h0j, hokj, F⟩ := hI
      replace G := GB1.trans (hO1.gr (fun _ _ h => h))
      replace hpt := (hP.t).gr G
      replace hph := (hP.h).gr G
      replace hpb := (hP.b).gr G
      replace hpl := (hP.l).gr G
      replace hC := (RCells.cons (hO1.cell (hCB1.at 0 rfl) (fun h => h)) (RCells.cons (hO1.cell (hCB1.at 1 rfl) (fun h => h)) (RCells.cons (hO1.cell (hCB1.at 2 rfl) (fun h => h)) (RCells.cons (hO1.cell (hCB1.at 3 rfl) (fun h => h)) (RCells.nil _)))))
      refine Y.seq ?_
      refine Y.sg F [(1, Vp w.heap.size), (4, Vi j), (46, .bool (decide ((j : Int) < p.nh)))] (by
       refine Y.pv F (X.move rfl (F.ev 4 (Vi j))) fun ac F=>?_
       refine Y.pv F (X.field rfl (F.ev 1 (Vp w.heap.size)) (X.fld Try.underlying27 rfl (Try.siz23 _) rfl rfl)) fun ac F=>?_
       refine Y.pv F (X.load rfl (F.ev 43 (.pointer (some ⟨w.heap.size, 1, none⟩))) (X.ld1 (Try.agg23 _) (hC.at 1 rfl))) fun ac F=>?_
       refine Y.pv F (X.len1 Try.underlying23 rfl (F.ev 44 (.slice ha p.nh hc))) fun ac F=>?_
       refine Y.pv F (X.binop rfl (F.ev 42 (Vi j)) (F.ev 45 (Vi p.nh)) (X.lssI Try.underlying3 rfl)) fun ac F=>?_
       exact Y.fin F) ?_;clear F ac;intro ac F
      cases h14 : decide ((j : Int) < p.nh) with
      | false =>
       try rw [h14] at F
       have h14p : ¬ ((j : Int) < p.nh) := of_decide_eq_false h14
       obtain rfl : j = p.nh := by omega
       refine Y.condF (F.ev 46 (.bool false)) ?_
       refine Y.exit ?_
       refine X.thenX (X.thenX (X.blockX (X.thenN ?_)))
       refine Y.sg F [(2, .bool false)] (Y.pv F (X.assign rfl (X.kc (.bool false) rfl)) fun ac F=>Y.fin F) ?_;clear F ac;intro ac F
       refine Y.ret ?_
       exact Y.ret0 (v := .bool false) F (Y.r1 F) ⟨by rw [far_no (by omega) hoki hokj], G⟩
      | true =>
       try rw [h14] at F
       have h14p : ((j : Int) < p.nh) := of_decide_eq_true h14
       have h9j : j < p.nh := by omega
       refine Y.condT (F.ev 46 (.bool true)) ?_
       refine Y.skip ?_
       refine X.thenN ?_
       refine Y.seq ?_
       refine Y.block ?_
       refine Y.sl ?_
       refine Y.pv F (X.field rfl (F.ev 1 (Vp w.heap.size)) (X.fld Try.underlying27 rfl (Try.siz23 _) rfl rfl)) ?_;clear F ac;intro ac F
       refine Y.pv F (X.load rfl (F.ev 49 (.pointer (some ⟨w.heap.size, 1, none⟩))) (X.ld1 (Try.agg23 _) (hC.at 1 rfl))) ?_;clear F ac;intro ac F
       refine Y.pv F (X.move rfl (F.ev 4 (Vi j))) ?_;clear F ac;intro ac F
       obtain ⟨pd15, pe15, -, pc15⟩ := hph.at (j := j) (by omega)
       subst pe15
       replace hC : RCells w13 [(Ad w.heap.size 0, .slice ta p.nt tc), (Ad w.heap.size 1, .slice (some pd15) p.nh hc), (Ad w.heap.size 2, .slice ba p.nb bc), (Ad w.heap.size 3, .slice la p.nl lc), (pd15.add (j * 6), .string (p.hn j)), (⟨(pd15.add (j * 6)).block, (pd15.add (j * 6)).off + 1, none⟩, Vi (p.hv j 1)), (⟨(pd15.add (j * 6)).block, (pd15.add (j * 6)).off + 2, none⟩, Vi (p.hv j 2)), (⟨(pd15.add (j * 6)).block, (pd15.add (j * 6)).off + 3, none⟩, Vi (p.hv j 3)), (⟨(pd15.add (j * 6)).block, (pd15.add (j * 6)).off + 4, none⟩, Vi (p.hv j 4)), (⟨(pd15.add (j * 6)).block, (pd15.add (j * 6)).off + 5, none⟩, Vi (p.hv j 5))] := hC.append ((RCells.cons (pc15 0 (by decide)) (RCells.cons (pc15 1 (by decide)) (RCells.cons (pc15 2 (by decide)) (RCells.cons (pc15 3 (by decide)) (RCells.cons (pc15 4 (by decide)) (RCells.cons (pc15 5 (by decide)) (RCells.nil _))))))))
       clear pc15
       refine Y.pv F (X.index rfl (F.ev 50 (.slice (some pd15) p.nh hc)) (F.ev 51 (Vi j)) (X.idx (k := j) Try.underlying23 (Try.siz53 _) (by omega) (by omega) rfl)) ?_;clear F ac;intro ac F
       refine Y.pv F (X.field rfl (F.ev 52 (.pointer (some (pd15.add (j * 6))))) (X.fld Try.underlying53 rfl (Try.siz9 _) rfl rfl)) ?_;clear F ac;intro ac F
       refine Y.pv F (X.load rfl (F.ev 53 (.pointer (some (pd15.add (j * 6))))) (X.ld1 (Try.agg9 _) (hC.at 4 rfl))) ?_;clear F ac;intro ac F
       refine Y.pv F (Y.lenS Try.underlying9 rfl (F.ev 54 (.string (p.hn j)))) ?_;clear F ac;intro ac F
       refine Y.pv F (X.binop rfl (F.ev 55 (Vi ((p.hn j).size : Nat))) (X.kc (Vi 100) rfl) (X.gtrI Try.underlying3 rfl)) ?_;clear F ac;intro ac F
       refine Y.nt F [(1, Vp w.heap.size), (4, Vi j), (56, .bool (decide ((100 : Int) < ((p.hn j).size : Nat))))] ?_;clear F ac;intro ac F
       cases h16 : decide ((100 : Int) < ((p.hn j).size : Nat)) with
       | false =>
        try rw [h16] at F
        have h16p : ¬ ((100 : Int) < ((p.hn j).size : Nat)) := of_decide_eq_false h16
        refine Y.condF (F.ev 56 (.bool false)) ?_
        refine Y.skip ?_
        refine X.blockN (X.thenN ?_)
        refine Y.lg F [(1, Vp w.heap.size), (4, Vi ((j : Int) + 1))] (by
         refine Y.pv F (X.move rfl (F.ev 4 (Vi j))) fun ac F=>?_
         refine Y.pv F (X.binop rfl (F.ev 47 (Vi j)) (X.kc (Vi 1) rfl) (X.addI Try.underlying3 rfl (by omega) (by omega))) fun ac F=>?_
         refine Y.pv F (X.assign rfl (F.ev 48 (Vi ((j : Int) + 1)))) fun ac F=>?_
         exact Y.fin F) ?_;clear F ac;intro ac F
        refine ⟨_, ?_, j + 1, rfl, hO1, by omega, allN_succ hokj (decide_eq_true (by omega)), F.sub _⟩
        omega
       | true =>
        try rw [h16] at F
        have h16p : ((100 : Int) < ((p.hn j).size : Nat)) := of_decide_eq_true h16
        refine Y.condT (F.ev 56 (.bool true)) ?_
        refine Y.sg F [(2, .bool true)] (Y.pv F (X.assign rfl (X.kc (.bool true) rfl)) fun ac F=>Y.fin F) ?_;clear F ac;intro ac F
        refine Y.ret ?_
        refine X.blockR (X.thenR (X.thenR (X.blockR (X.thenR ?_))))
        exact Y.ret0 (v := .bool true) F (Y.r1 F) ⟨by rw [far_h h9j (by omega)], G⟩
     | true =>
      try rw [h12] at F
      have h12p : ((i : Int) < p.nt) := of_decide_eq_true h12
      have h9i : i < p.nt := by omega
      refine Y.condT (F.ev 31 (.bool true)) ?_
      refine Y.skip ?_
      refine X.thenN ?_
      refine Y.seq ?_
      refine Y.block ?_
      refine Y.sl ?_
      refine Y.pv F (X.field rfl (F.ev 1 (Vp w.heap.size)) (X.fld Try.underlying27 rfl (Try.siz22 _) rfl rfl)) ?_;clear F ac;intro ac F
      refine Y.pv F (X.load rfl (F.ev 34 (Vp w.heap.size)) (X.ld1 (Try.agg22 _) (hC.at 0 rfl))) ?_;clear F ac;intro ac F
      refine Y.pv F (X.move rfl (F.ev 3 (Vi i))) ?_;clear F ac;intro ac F
      obtain ⟨pd17, pe17, -, pc17⟩ := hpt.at (j := i) (by omega)
      subst pe17
      replace hC : RCells w11 [(Ad w.heap.size 0, .slice (some pd17) p.nt tc), (Ad w.heap.size 1, .slice ha p.nh hc), (Ad w.heap.size 2, .slice ba p.nb bc), (Ad w.heap.size 3, .slice la p.nl lc), (pd17.add (i * 4), .string (p.tn i)), (⟨(pd17.add (i * 4)).block, (pd17.add (i * 4)).off + 1, none⟩, Vi (p.tv i 1)), (⟨(pd17.add (i * 4)).block, (pd17.add (i * 4)).off + 2, none⟩, Vi (p.tv i 2)), (⟨(pd17.add (i * 4)).block, (pd17.add (i * 4)).off + 3, none⟩, Vi (p.tv i 3))] := hC.append ((RCells.cons (pc17 0 (by decide)) (RCells.cons (pc17 1 (by decide)) (RCells.cons (pc17 2 (by decide)) (RCells.cons (pc17 3 (by decide)) (RCells.nil _))))))
      clear pc17
      refine Y.pv F (X.index rfl (F.ev 35 (.slice (some pd17) p.nt tc)) (F.ev 36 (Vi i)) (X.idx (k := i) Try.underlying22 (Try.siz74 _) (by omega) (by omega) rfl)) ?_;clear F ac;intro ac F
      refine Y.pv F (X.field rfl (F.ev 37 (.pointer (some (pd17.add (i * 4))))) (X.fld Try.underlying74 rfl (Try.siz9 _) rfl rfl)) ?_;clear F ac;intro ac F
      refine Y.pv F (X.load rfl (F.ev 38 (.pointer (some (pd17.add (i * 4))))) (X.ld1 (Try.agg9 _) (hC.at 4 rfl))) ?_;clear F ac;intro ac F
      refine Y.pv F (Y.lenS Try.underlying9 rfl (F.ev 39 (.string (p.tn i)))) ?_;clear F ac;intro ac F
      refine Y.pv F (X.binop rfl (F.ev 40 (Vi ((p.tn i).size : Nat))) (X.kc (Vi 100) rfl) (X.gtrI Try.underlying3 rfl)) ?_;clear F ac;intro ac F
      refine Y.nt F [(1, Vp w.heap.size), (3, Vi i), (41, .bool (decide ((100 : Int) < ((p.tn i).size : Nat))))] ?_;clear F ac;intro ac F
      cases h18 : decide ((100 : Int) < ((p.tn i).size : Nat)) with
      | false =>
       try rw [h18] at F
       have h18p : ¬ ((100 : Int) < ((p.tn i).size : Nat)) := of_decide_eq_false h18
       refine Y.condF (F.ev 41 (.bool false)) ?_
       refine Y.skip ?_
       refine X.blockN (X.thenN ?_)
       refine Y.lg F [(1, Vp w.heap.size), (3, Vi ((i : Int) + 1))] (by
        refine Y.pv F (X.move rfl (F.ev 3 (Vi i))) fun ac F=>?_
        refine Y.pv F (X.binop rfl (F.ev 32 (Vi i)) (X.kc (Vi 1) rfl) (X.addI Try.underlying3 rfl (by omega) (by omega))) fun ac F=>?_
        refine Y.pv F (X.assign rfl (F.ev 33 (Vi ((i : Int) + 1)))) fun ac F=>?_
        exact Y.fin F) ?_;clear F ac;intro ac F
       refine ⟨_, ?_, i + 1, rfl, hO1, by omega, allN_succ hoki (decide_eq_true (by omega)), F.sub _⟩
       omega
      | true =>
       try rw [h18] at F
       have h18p : ((100 : Int) < ((p.tn i).size : Nat)) := of_decide_eq_true h18
       refine Y.condT (F.ev 41 (.bool true)) ?_
       refine Y.sg F [(2, .bool true)] (Y.pv F (X.assign rfl (X.kc (.bool true) rfl)) fun ac F=>Y.fin F) ?_;clear F ac;intro ac F
       refine Y.ret ?_
       refine X.blockR (X.thenR (X.thenR (X.blockR (X.thenR ?_))))
       exact Y.ret0 (v := .bool true) F (Y.r1 F) ⟨by rw [far_t h9i (by omega)], G⟩
    | true =>
     try rw [h10] at F
     have h10p : ((40 : Int) < p.nl) := of_decide_eq_true h10
     refine Y.condT (F.ev 26 (.bool true)) ?_
     refine Y.sg F [(2, .bool true)] (Y.pv F (X.assign rfl (X.kc (.bool true) rfl)) fun ac F=>Y.fin F) ?_;clear F ac;intro ac F
     refine Y.ret ?_
     refine X.thenR ?_
     exact Y.ret0 (v := .bool true) F (Y.r1 F) ⟨by rw [far_n (by omega)], G⟩
   | true =>
    try rw [h9] at F
    have h9p : ((40 : Int) < p.nb) := of_decide_eq_true h9
    refine Y.ps F 16 21 true ?_;clear F ac;intro ac F
    refine Y.ps F 16 21 true ?_;clear F ac;intro ac F
    refine Y.ps F 16 21 true ?_;clear F ac;intro ac F
    refine Y.ps F 16 21 true ?_;clear F ac;intro ac F
    refine Y.pv F (X.pickT rfl (F.ev 21 (.bool true)) (X.kc (.bool true) rfl)) ?_;clear F ac;intro ac F
    refine Y.nt F [(1, Vp w.heap.size), (26, .bool true)] ?_;clear F ac;intro ac F
    refine Y.condT (F.ev 26 (.bool true)) ?_
    refine Y.sg F [(2, .bool true)] (Y.pv F (X.assign rfl (X.kc (.bool true) rfl)) fun ac F=>Y.fin F) ?_;clear F ac;intro ac F
    refine Y.ret ?_
    refine X.thenR ?_
    exact Y.ret0 (v := .bool true) F (Y.r1 F) ⟨by rw [far_n (by omega)], G⟩
  | true =>
   try rw [h8] at F
   have h8p : ((20 : Int) < p.nh) := of_decide_eq_true h8
   refine Y.ps F 10 15 true ?_;clear F ac;intro ac F
   refine Y.ps F 10 15 true ?_;clear F ac;intro ac F
   refine Y.ps F 10 15 true ?_;clear F ac;intro ac F
   refine Y.ps F 10 15 true ?_;clear F ac;intro ac F
   refine Y.pv F (X.pickT rfl (F.ev 15 (.bool true)) (X.kc (.bool true) rfl)) ?_;clear F ac;intro ac F
   refine Y.pv F (X.move rfl (F.ev 20 (.bool true))) ?_;clear F ac;intro ac F
   refine Y.ps F 16 21 true ?_;clear F ac;intro ac F
   refine Y.ps F 16 21 true ?_;clear F ac;intro ac F
   refine Y.ps F 16 21 true ?_;clear F ac;intro ac F
   refine Y.ps F 16 21 true ?_;clear F ac;intro ac F
   refine Y.pv F (X.pickT rfl (F.ev 21 (.bool true)) (X.kc (.bool true) rfl)) ?_;clear F ac;intro ac F
   refine Y.nt F [(1, Vp w.heap.size), (26, .bool true)] ?_;clear F ac;intro ac F
   refine Y.condT (F.ev 26 (.bool true)) ?_
   refine Y.sg F [(2, .bool true)] (Y.pv F (X.assign rfl (X.kc (.bool true) rfl)) fun ac F=>Y.fin F) ?_;clear F ac;intro ac F
   refine Y.ret ?_
   refine X.thenR ?_
   exact Y.ret0 (v := .bool true) F (Y.r1 F) ⟨by rw [far_n (by omega)], G⟩
 | true =>
  try rw [h7] at F
  have h7p : ((20 : Int) < p.nt) := of_decide_eq_true h7
  refine Y.ps F 4 9 true ?_;clear F ac;intro ac F
  refine Y.ps F 4 9 true ?_;clear F ac;intro ac F
  refine Y.ps F 4 9 true ?_;clear F ac;intro ac F
  refine Y.ps F 4 9 true ?_;clear F ac;intro ac F
  refine Y.pv F (X.pickT rfl (F.ev 9 (.bool true)) (X.kc (.bool true) rfl)) ?_;clear F ac;intro ac F
  refine Y.pv F (X.move rfl (F.ev 14 (.bool true))) ?_;clear F ac;intro ac F
  refine Y.ps F 10 15 true ?_;clear F ac;intro ac F
  refine Y.ps F 10 15 true ?_;clear F ac;intro ac F
  refine Y.ps F 10 15 true ?_;clear F ac;intro ac F
  refine Y.ps F 10 15 true ?_;clear F ac;intro ac F
  refine Y.pv F (X.pickT rfl (F.ev 15 (.bool true)) (X.kc (.bool true) rfl)) ?_;clear F ac;intro ac F
  refine Y.pv F (X.move rfl (F.ev 20 (.bool true))) ?_;clear F ac;intro ac F
  refine Y.ps F 16 21 true ?_;clear F ac;intro ac F
  refine Y.ps F 16 21 true ?_;clear F ac;intro ac F
  refine Y.ps F 16 21 true ?_;clear F ac;intro ac F
  refine Y.ps F 16 21 true ?_;clear F ac;intro ac F
  refine Y.pv F (X.pickT rfl (F.ev 21 (.bool true)) (X.kc (.bool true) rfl)) ?_;clear F ac;intro ac F
  refine Y.nt F [(1, Vp w.heap.size), (26, .bool true)] ?_;clear F ac;intro ac F
  refine Y.condT (F.ev 26 (.bool true)) ?_
  refine Y.sg F [(2, .bool true)] (Y.pv F (X.assign rfl (X.kc (.bool true) rfl)) fun ac F=>Y.fin F) ?_;clear F ac;intro ac F
  refine Y.ret ?_
  refine X.thenR ?_
  exact Y.ret0 (v := .bool true) F (Y.r1 F) ⟨by rw [far_n (by omega)], G⟩
set_option maxRecDepth 100000 in
set_option maxHeartbeats 400000 in
theorem large_any (p : Pb) (ta ha ba la : Option Addr) (tc hc bc lc : Nat) (w : World) (hP : PbAt w p ta ha ba la tc hc bc lc) :
  Calls Try.prog 21 #[.agg #[.slice ta p.nt tc, .slice ha p.nh hc, .slice ba p.nb bc, .slice la p.nl lc]] w fun e w' => e = .returned (.bool (largeB p)) ∧ Gr w w' := by
 have G := Gr.refl w
 have hpt := hP.t
 have hph := hP.h
 have hpb := hP.b
 have hpl := hP.l
 have hplen := hP.len
 obtain ⟨hn1, hn2, hn3, hn4⟩ := hplen
 have hcp1 := hpt.cap
 have hcp2 := hph.cap
 have hcp3 := hpb.cap
 have hcp4 := hpl.cap
 refine Y.calls 22 Try.func21 rfl rfl ?_
 intro ac F0
 have F : Fr ac 22 [(0, .agg #[.slice ta p.nt tc, .slice ha p.nh hc, .slice ba p.nb bc, .slice la p.nl lc])] := F0.sub _
 clear F0
 refine Y.sl ?_
 have hgs3 : w.heap.size ≤ w.heap.size := G.size
 refine Y.pv F (X.box rfl (F.ev 0 (.agg #[.slice ta p.nt tc, .slice ha p.nh hc, .slice ba p.nb bc, .slice la p.nl lc])) X.bx) ?_;clear F ac;intro ac F
 have hgs5 : w.heap.size ≤ w.heap.size := G.size
 have g := Gr.alloc w (.cells #[.slice ta p.nt tc, .slice ha p.nh hc, .slice ba p.nb bc, .slice la p.nl lc] 27)
 have hb := heap_alloc_new w (.cells #[.slice ta p.nt tc, .slice ha p.nh hc, .slice ba p.nb bc, .slice la p.nl lc] 27)
 have hbl : w.heap.size < (w.alloc (.cells #[.slice ta p.nt tc, .slice ha p.nh hc, .slice ba p.nb bc, .slice la p.nl lc] 27)).heap.size := by simp
 have hC2 : RCells (w.alloc (.cells #[.slice ta p.nt tc, .slice ha p.nh hc, .slice ba p.nb bc, .slice la p.nl lc] 27)) [(Ad w.heap.size 0, .slice ta p.nt tc), (Ad w.heap.size 1, .slice ha p.nh hc), (Ad w.heap.size 2, .slice ba p.nb bc), (Ad w.heap.size 3, .slice la p.nl lc)] := (RCells.nil w).box (b := w.heap.size) #[.slice ta p.nt tc, .slice ha p.nh hc, .slice ba p.nb bc, .slice la p.nl lc] 27 rfl
 generalize w.alloc (.cells #[.slice ta p.nt tc, .slice ha p.nh hc, .slice ba p.nb bc, .slice la p.nl lc] 27) = w6 at *
 replace G := G.trans g
 have hC := hC2
 clear hC2
 replace hpt := hpt.gr g
 replace hph := hph.gr g
 replace hpb := hpb.gr g
 replace hpl := hpl.gr g
 have hsz4 := hbl
 clear g hb hbl
 refine Y.pv F (X.assign rfl (X.kc (.bool false) rfl)) ?_;clear F ac;intro ac F
 refine Y.nt F [(1, Vp w.heap.size)] ?_;clear F ac;intro ac F
 refine Y.sl ?_
 refine Y.pv F (X.load rfl (F.ev 1 (Vp w.heap.size)) (X.ldN (Try.agg27 _) (Try.siz27 _) (Y.atz (⟨w.heap.size, 0, none⟩) (Y.AtFrom.cons (hC.at 0 rfl) (Y.AtFrom.cons (hC.at 1 rfl) (Y.AtFrom.cons (hC.at 2 rfl) (Y.AtFrom.cons (hC.at 3 rfl) (Y.AtFrom.nil _ _ _)))))))) ?_;clear F ac;intro ac F
 refine Y.pc F 15 (X.a1 (F.ev 3 (.agg #[.slice ta p.nt tc, .slice ha p.nh hc, .slice ba p.nb bc, .slice la p.nl lc]))) Try.func15 (far_any p ta ha ba la tc hc bc lc w6 (hP.gr G)) ?_
 clear F ac
 rintro e w7 ⟨rfl, g⟩
 refine ⟨_, rfl, ?_⟩
 intro ac F
 replace G := G.trans g
 replace hC := hC.gr g
 replace hpt := hpt.gr g
 replace hph := hph.gr g
 replace hpb := hpb.gr g
 replace hpl := hpl.gr g
 clear g
 refine Y.pv F (X.move rfl (F.ev 4 (.bool (farB p)))) ?_;clear F ac;intro ac F
 cases h8 : farB p with
 | false =>
  try rw [h8] at F
  refine Y.pg F 2 5 false (X.load rfl (F.ev 1 (Vp w.heap.size)) (X.ldN (Try.agg27 _) (Try.siz27 _) (Y.atz (⟨w.heap.size, 0, none⟩) (Y.AtFrom.cons (hC.at 0 rfl) (Y.AtFrom.cons (hC.at 1 rfl) (Y.AtFrom.cons (hC.at 2 rfl) (Y.AtFrom.cons (hC.at 3 rfl) (Y.AtFrom.nil _ _ _)))))))) ?_;clear F ac;intro ac F
  refine Y.pcall F (X.w1 rfl (F.yl (j := 2) (d := 5) (b := false) rfl (by kernel_rfl))) rfl (X.enter (F := 19) rfl (X.kc (.func (.func 19) #[] #[]) rfl) (X.a1 (F.ev 6 (.agg #[.slice ta p.nt tc, .slice ha p.nh hc, .slice ba p.nb bc, .slice la p.nl lc]))) (enters_of Try.func19 (by kernel_rfl) rfl _)) (check2_any p ta ha ba la tc hc bc lc w7 (hP.gr G)) ?_
  clear F ac
  rintro e w9 ⟨rfl, g⟩
  refine ⟨_, rfl, ?_⟩
  intro ac F
  replace G := G.trans g
  replace hC := hC.gr g
  replace hpt := hpt.gr g
  replace hph := hph.gr g
  replace hpb := hpb.gr g
  replace hpl := hpl.gr g
  clear g
  refine Y.pg F 2 5 false (X.binop rfl (F.ev 7 (Vi (chkE p))) (X.kc (Vi 0) rfl) (X.eqlI Try.underlying31 rfl)) ?_;clear F ac;intro ac F
  refine Y.pg F 2 5 false (X.move rfl (F.ev 8 (.bool ((chkE p : Int) == 0)))) ?_;clear F ac;intro ac F
  cases h10 : ((chkE p : Int) == 0) with
  | false =>
   try rw [h10] at F
   have h10p : ¬ (chkE p : Int) = 0 := by simpa using h10
   refine Y.ps F 6 9 false ?_;clear F ac;intro ac F
   refine Y.ps F 6 9 false ?_;clear F ac;intro ac F
   refine Y.ps F 6 9 false ?_;clear F ac;intro ac F
   refine Y.ps F 6 9 false ?_;clear F ac;intro ac F
   refine Y.ps F 6 9 false ?_;clear F ac;intro ac F
   refine Y.pn F 11 14 ?_;clear F ac;intro ac F
   refine Y.pn F 11 14 ?_;clear F ac;intro ac F
   refine Y.pn F 11 14 ?_;clear F ac;intro ac F
   refine Y.pn F 11 14 ?_;clear F ac;intro ac F
   refine Y.ps F 6 9 false ?_;clear F ac;intro ac F
   refine Y.pg F 2 5 false (X.pickF rfl (F.ev 9 (.bool false)) (X.kc (.bool false) rfl)) ?_;clear F ac;intro ac F
   refine Y.pv F (X.pickF rfl (F.ev 5 (.bool false)) (F.ev 20 (.bool false))) ?_;clear F ac;intro ac F
   refine Y.pv F (X.assign rfl (F.ev 21 (.bool false))) ?_;clear F ac;intro ac F
   refine Y.nt F [(2, .bool false)] ?_;clear F ac;intro ac F
   refine Y.ret ?_
   exact Y.ret0 (v := .bool false) F (Y.r1 F) ⟨by unfold largeB; rw [h8, decide_eq_false (by omega : ¬ chkE p = 0)]; rfl, G⟩
  | true =>
   try rw [h10] at F
   have h10p : (chkE p : Int) = 0 := by simpa using h10
   refine Y.pg F 6 9 true (X.field rfl (F.ev 1 (Vp w.heap.size)) (X.fld Try.underlying27 rfl (Try.siz22 _) rfl rfl)) ?_;clear F ac;intro ac F
   refine Y.pg F 6 9 true (X.load rfl (F.ev 10 (Vp w.heap.size)) (X.ld1 (Try.agg22 _) (hC.at 0 rfl))) ?_;clear F ac;intro ac F
   refine Y.pg F 6 9 true (X.len1 Try.underlying22 rfl (F.ev 11 (.slice ta p.nt tc))) ?_;clear F ac;intro ac F
   refine Y.pg F 6 9 true (X.binop rfl (F.ev 12 (Vi p.nt)) (X.kc (Vi 5) rfl) (X.gtrI Try.underlying3 rfl)) ?_;clear F ac;intro ac F
   refine Y.pg F 6 9 true (X.move rfl (F.ev 13 (.bool (decide ((5 : Int) < p.nt))))) ?_;clear F ac;intro ac F
   cases h11 : decide ((5 : Int) < p.nt) with
   | false =>
    try rw [h11] at F
    have h11p : ¬ ((5 : Int) < p.nt) := of_decide_eq_false h11
    refine Y.pg F 11 14 false (X.field rfl (F.ev 1 (Vp w.heap.size)) (X.fld Try.underlying27 rfl (Try.siz23 _) rfl rfl)) ?_;clear F ac;intro ac F
    refine Y.pg F 11 14 false (X.load rfl (F.ev 15 (.pointer (some ⟨w.heap.size, 1, none⟩))) (X.ld1 (Try.agg23 _) (hC.at 1 rfl))) ?_;clear F ac;intro ac F
    refine Y.pg F 11 14 false (X.len1 Try.underlying23 rfl (F.ev 16 (.slice ha p.nh hc))) ?_;clear F ac;intro ac F
    refine Y.pg F 11 14 false (X.binop rfl (F.ev 17 (Vi p.nh)) (X.kc (Vi 4) rfl) (X.gtrI Try.underlying3 rfl)) ?_;clear F ac;intro ac F
    refine Y.pg F 6 9 true (X.pickF rfl (F.ev 14 (.bool false)) (F.ev 18 (.bool (decide ((4 : Int) < p.nh))))) ?_;clear F ac;intro ac F
    refine Y.pg F 2 5 false (X.pickT rfl (F.ev 9 (.bool true)) (F.ev 19 (.bool (decide ((4 : Int) < p.nh))))) ?_;clear F ac;intro ac F
    refine Y.pv F (X.pickF rfl (F.ev 5 (.bool false)) (F.ev 20 (.bool (decide ((4 : Int) < p.nh))))) ?_;clear F ac;intro ac F
    refine Y.pv F (X.assign rfl (F.ev 21 (.bool (decide ((4 : Int) < p.nh))))) ?_;clear F ac;intro ac F
    refine Y.nt F [(2, .bool (decide ((4 : Int) < p.nh)))] ?_;clear F ac;intro ac F
    refine Y.ret ?_
    exact Y.ret0 (v := .bool (decide ((4 : Int) < p.nh))) F (Y.r1 F) ⟨by unfold largeB; rw [h8, decide_eq_true (by omega : chkE p = 0), decide_eq_false (by omega : ¬ 5 < p.nt), show decide ((4 : Int) < p.nh) = decide (4 < p.nh) from decide_eq_decide.2 (by omega)]; simp, G⟩
   | true =>
    try rw [h11] at F
    have h11p : ((5 : Int) < p.nt) := of_decide_eq_true h11
    refine Y.ps F 11 14 true ?_;clear F ac;intro ac F
    refine Y.ps F 11 14 true ?_;clear F ac;intro ac F
    refine Y.ps F 11 14 true ?_;clear F ac;intro ac F
    refine Y.ps F 11 14 true ?_;clear F ac;intro ac F
    refine Y.pg F 6 9 true (X.pickT rfl (F.ev 14 (.bool true)) (X.kc (.bool true) rfl)) ?_;clear F ac;intro ac F
    refine Y.pg F 2 5 false (X.pickT rfl (F.ev 9 (.bool true)) (F.ev 19 (.bool true))) ?_;clear F ac;intro ac F
    refine Y.pv F (X.pickF rfl (F.ev 5 (.bool false)) (F.ev 20 (.bool true))) ?_;clear F ac;intro ac F
    refine Y.pv F (X.assign rfl (F.ev 21 (.bool true))) ?_;clear F ac;intro ac F
    refine Y.nt F [(2, .bool true)] ?_;clear F ac;intro ac F
    refine Y.ret ?_
    exact Y.ret0 (v := .bool true) F (Y.r1 F) ⟨by unfold largeB; rw [h8, decide_eq_true (by omega : chkE p = 0), decide_eq_true (by omega : 5 < p.nt)]; rfl, G⟩
 | true =>
  try rw [h8] at F
  refine Y.ps F 2 5 true ?_;clear F ac;intro ac F
  refine Y.ps F 2 5 true ?_;clear F ac;intro ac F
  refine Y.ps F 2 5 true ?_;clear F ac;intro ac F
  refine Y.ps F 2 5 true ?_;clear F ac;intro ac F
  refine Y.pn F 6 9 ?_;clear F ac;intro ac F
  refine Y.pn F 6 9 ?_;clear F ac;intro ac F
  refine Y.pn F 6 9 ?_;clear F ac;intro ac F
  refine Y.pn F 6 9 ?_;clear F ac;intro ac F
  refine Y.pn F 6 9 ?_;clear F ac;intro ac F
  refine Y.pn F 11 14 ?_;clear F ac;intro ac F
  refine Y.pn F 11 14 ?_;clear F ac;intro ac F
  refine Y.pn F 11 14 ?_;clear F ac;intro ac F
  refine Y.pn F 11 14 ?_;clear F ac;intro ac F
  refine Y.pn F 6 9 ?_;clear F ac;intro ac F
  refine Y.ps F 2 5 true ?_;clear F ac;intro ac F
  refine Y.pv F (X.pickT rfl (F.ev 5 (.bool true)) (X.kc (.bool true) rfl)) ?_;clear F ac;intro ac F
  refine Y.pv F (X.assign rfl (F.ev 21 (.bool true))) ?_;clear F ac;intro ac F
  refine Y.nt F [(2, .bool true)] ?_;clear F ac;intro ac F
  refine Y.ret ?_
  exact Y.ret0 (v := .bool true) F (Y.r1 F) ⟨by unfold largeB; rw [h8]; rfl, G⟩
theorem same_yes {xs ys : List Int} (hl : xs.length = ys.length) (h : ∀ j, j < xs.length → xs[j]?.getD 0 = ys[j]?.getD 0) : decide (xs = ys) = true := by
 refine decide_eq_true (List.ext_getElem hl fun i h1 h2 => ?_)
 have := h i h1
 simpa [h1, h2] using this
theorem same_no {xs ys : List Int} {j : Nat} (hj : j < xs.length) (hl : xs.length = ys.length) (h : ¬ xs[j]?.getD 0 = ys[j]?.getD 0) : decide (xs = ys) = false :=
 decide_eq_false fun e => h (by rw [e])
set_option maxRecDepth 100000 in
set_option maxHeartbeats 400000 in
theorem same_any (a b : Option Addr) (c d : Nat) (xs ys : List Int) (w : World) (hX : Ints w a xs.length xs) (hY : Ints w b ys.length ys) :
  Calls Try.prog 24 #[.slice a xs.length c, .slice b ys.length d] w fun e w' => e = .returned (.bool (decide (xs = ys))) ∧ Gr w w' := by
 have G := Gr.refl w
 have hx := hX
 have hy := hY
 have hlt := hX.lt
 have hlt2 := hY.lt
 refine Y.calls 26 Try.func24 rfl rfl ?_
 intro ac F0
 have F : Fr ac 26 [(0, .slice a xs.length c), (1, .slice b ys.length d)] := F0.sub _
 clear F0
 refine Y.sg F [(0, .slice a xs.length c), (1, .slice b ys.length d)] (Y.pv F (X.assign rfl (X.kc (.bool false) rfl)) fun ac F=>Y.fin F) ?_;clear F ac;intro ac F
 refine Y.seq ?_
 refine Y.sg F [(0, .slice a xs.length c), (1, .slice b ys.length d), (10, .bool ((xs.length : Int) != ys.length))] (Y.pv F (X.move rfl (F.ev 0 (.slice a xs.length c))) fun ac F=>Y.pv F (X.len1 Try.underlying34 rfl (F.ev 6 (.slice a xs.length c))) fun ac F=>Y.pv F (X.move rfl (F.ev 1 (.slice b ys.length d))) fun ac F=>Y.pv F (X.len1 Try.underlying34 rfl (F.ev 8 (.slice b ys.length d))) fun ac F=>Y.pv F (X.binop rfl (F.ev 7 (Vi xs.length)) (F.ev 9 (Vi ys.length)) (X.neqI Try.underlying3 rfl)) fun ac F=>Y.fin F) ?_;clear F ac;intro ac F
 cases h3 : ((xs.length : Int) != ys.length) with
 | false =>
  try rw [h3] at F
  have h3p : (xs.length : Int) = ys.length := by simpa using h3
  have hl2 : xs.length = ys.length := by omega
  refine Y.condF (F.ev 10 (.bool false)) ?_
  refine Y.skip ?_
  refine X.thenN ?_
  refine Y.seq ?_
  refine Y.sg F [(0, .slice a xs.length c), (1, .slice b ys.length d), (5, Vi 0)] (Y.pv F (X.assign rfl (X.kc (Vi 0) rfl)) fun ac F=>Y.fin F) ?_;clear F ac;intro ac F
  refine Y.block ?_
  refine Y.loop (fun me_ ac wr => ∃ (i : Nat), me_ = xs.length - i ∧ Only (fun b => False) w wr ∧ i ≤ xs.length ∧ (∀ j, j < i → xs[j]?.getD 0 = ys[j]?.getD 0) ∧ Fr ac 26 [(0, .slice a xs.length c), (1, .slice b ys.length d), (5, Vi i)]) _ ⟨0, rfl, Only.refl _ _, Nat.zero_le _, fun j h => by omega, F.sub _⟩ ?_
  have hxB1 := hx
  have hyB1 := hy
  have GB1 := G
  clear F ac
  intro me_ ac w4 hI
  obtain ⟨i, rfl, hO1, hi, hsame, F⟩ := hI
  replace G := GB1.trans (hO1.gr (fun _ _ h => h))
  replace hx := (hX).gr G
  replace hy := (hY).gr G
  refine Y.seq ?_
  refine Y.sg F [(0, .slice a xs.length c), (1, .slice b ys.length d), (5, Vi i), (14, .bool (decide ((i : Int) < xs.length)))] (Y.pv F (X.move rfl (F.ev 5 (Vi i))) fun ac F=>Y.pv F (X.move rfl (F.ev 0 (.slice a xs.length c))) fun ac F=>Y.pv F (X.len1 Try.underlying34 rfl (F.ev 12 (.slice a xs.length c))) fun ac F=>Y.pv F (X.binop rfl (F.ev 11 (Vi i)) (F.ev 13 (Vi xs.length)) (X.lssI Try.underlying3 rfl)) fun ac F=>Y.fin F) ?_;clear F ac;intro ac F
  cases h5 : decide ((i : Int) < xs.length) with
  | false =>
   try rw [h5] at F
   have h5p : ¬ ((i : Int) < xs.length) := of_decide_eq_false h5
   have hin : i = xs.length := by omega
   refine Y.condF (F.ev 14 (.bool false)) ?_
   refine Y.exit ?_
   refine X.thenX (X.thenX (X.blockX (X.thenN ?_)))
   refine Y.sg F [(4, .bool true)] (Y.pv F (X.assign rfl (X.kc (.bool true) rfl)) fun ac F=>Y.fin F) ?_;clear F ac;intro ac F
   refine Y.ret ?_
   exact Y.ret0 (v := .bool true) F (Y.r1 F) ⟨by rw [same_yes hl2 (fun j hj => hsame j (by omega))], G⟩
  | true =>
   try rw [h5] at F
   have h5p : ((i : Int) < xs.length) := of_decide_eq_true h5
   refine Y.condT (F.ev 14 (.bool true)) ?_
   refine Y.skip ?_
   refine X.thenN ?_
   refine Y.seq ?_
   refine Y.block ?_
   refine Y.seq ?_
   obtain ⟨pd6, pe6, -, pc6⟩ := hx.at (j := i) (by omega)
   subst pe6
   have hC : RCells w4 [(pd6.add i, Vi (xs[i]?.getD 0))] := (RCells.cons pc6 (RCells.nil _))
   clear pc6
   obtain ⟨pd7, pe7, -, pc7⟩ := hy.at (j := i) (by omega)
   subst pe7
   replace hC : RCells w4 [(pd6.add i, Vi (xs[i]?.getD 0)), (pd7.add i, Vi (ys[i]?.getD 0))] := hC.append ((RCells.cons pc7 (RCells.nil _)))
   clear pc7
   refine Y.region F [some (.slice (some pd6) xs.length c), some (Vi i), some (.pointer (some (pd6.add i))), some (Vi (xs[i]?.getD 0)), some (.slice (some pd7) ys.length d), some (Vi i), some (.pointer (some (pd7.add i))), some (Vi (ys[i]?.getD 0)), some (.bool ((xs[i]?.getD 0 : Int) != (ys[i]?.getD 0)))] [] rfl ⟨by kernel_rfl, of_decide_eq_true (by kernel_rfl), by kernel_rfl, by kernel_rfl, by kernel_rfl⟩ ⟨?_, ?_, ?_, ?_, ?_, ?_, ?_, ?_, ?_, trivial⟩ ?_
   ·intro ac done u W Sx hR
    exact X.vl (X.move rfl (Sx.ev 0 (.slice (some pd6) xs.length c))) hR.st0
   ·intro ac done u W Sx hR
    exact X.vl (X.move rfl (Sx.ev 5 (Vi i))) hR.st0
   ·intro ac done u W Sx hR
    exact X.val (X.w0 rfl) rfl (X.index rfl (Sx.ev 17 (.slice (some pd6) xs.length c)) (Sx.ev 18 (Vi i)) (X.idx (k := i) Try.underlying34 (Try.siz3 _) (by omega) (by omega) (by rw [Nat.mul_one]))) hR.st0
   ·intro ac done u W Sx hR
    have g : Gr w4 W := hR.1
    exact X.vl (X.load rfl (Sx.ev 19 (.pointer (some (pd6.add i)))) (X.ld1 (Try.agg3 _) ((hC.gr g).at 0 rfl))) hR.st0
   ·intro ac done u W Sx hR
    exact X.vl (X.move rfl (Sx.ev 1 (.slice (some pd7) ys.length d))) hR.st0
   ·intro ac done u W Sx hR
    exact X.vl (X.move rfl (Sx.ev 5 (Vi i))) hR.st0
   ·intro ac done u W Sx hR
    exact X.val (X.w0 rfl) rfl (X.index rfl (Sx.ev 21 (.slice (some pd7) ys.length d)) (Sx.ev 22 (Vi i)) (X.idx (k := i) Try.underlying34 (Try.siz3 _) (by omega) (by omega) (by rw [Nat.mul_one]))) hR.st0
   ·intro ac done u W Sx hR
    have g : Gr w4 W := hR.1
    exact X.vl (X.load rfl (Sx.ev 23 (.pointer (some (pd7.add i)))) (X.ld1 (Try.agg3 _) ((hC.gr g).at 1 rfl))) hR.st0
   ·intro ac done u W Sx hR
    exact X.vl (X.binop rfl (Sx.ev 20 (Vi (xs[i]?.getD 0))) (Sx.ev 24 (Vi (ys[i]?.getD 0))) (X.neqI Try.underlying3 rfl)) hR.st0
   intro ac u w8 hs hd hl ho hR
   have g : Gr w4 w8 := hR.1
   replace F : Fr ac 26 [(0, .slice (some pd6) xs.length c), (1, .slice (some pd7) ys.length d), (5, Vi i), (25, .bool ((xs[i]?.getD 0 : Int) != (ys[i]?.getD 0)))] := X.fr hs hd hl _ (by kernel_rfl)
   clear hs hd hl ho hR
   replace G := G.trans g
   replace hC := hC.gr g
   replace hO1 := hO1.thenGr g
   replace hx := hx.gr g
   replace hy := hy.gr g
   clear g
   refine X.thenN ?_
   cases h9 : ((xs[i]?.getD 0 : Int) != (ys[i]?.getD 0)) with
   | false =>
    try rw [h9] at F
    have h9p : (xs[i]?.getD 0 : Int) = (ys[i]?.getD 0) := by simpa using h9
    refine Y.condF (F.ev 25 (.bool false)) ?_
    refine Y.skip ?_
    refine X.blockN (X.thenN ?_)
    refine Y.lg F [(0, .slice (some pd6) xs.length c), (1, .slice (some pd7) ys.length d), (5, Vi ((i : Int) + 1))] (by
     refine Y.pv F (X.move rfl (F.ev 5 (Vi i))) fun ac F=>?_
     refine Y.pv F (X.binop rfl (F.ev 15 (Vi i)) (X.kc (Vi 1) rfl) (X.addI Try.underlying3 rfl (by omega) (by omega))) fun ac F=>?_
     refine Y.pv F (X.assign rfl (F.ev 16 (Vi ((i : Int) + 1)))) fun ac F=>?_
     exact Y.fin F) ?_;clear F ac;intro ac F
    refine ⟨_, ?_, i + 1, rfl, hO1, by omega, fun j hj => if e : j = i then by rw [e]; exact (by simpa using h9p) else hsame j (by omega), F.sub _⟩
    omega
   | true =>
    try rw [h9] at F
    have h9p : ¬ (xs[i]?.getD 0 : Int) = (ys[i]?.getD 0) := by simpa using h9
    refine Y.condT (F.ev 25 (.bool true)) ?_
    refine Y.sg F [(4, .bool false)] (Y.pv F (X.assign rfl (X.kc (.bool false) rfl)) fun ac F=>Y.fin F) ?_;clear F ac;intro ac F
    refine Y.ret ?_
    refine X.blockR (X.thenR (X.thenR (X.blockR (X.thenR ?_))))
    exact Y.ret0 (v := .bool false) F (Y.r1 F) ⟨by rw [same_no (j := i) (by omega) hl2 (by simpa using h9p)], G⟩
 | true =>
  try rw [h3] at F
  have h3p : ¬ (xs.length : Int) = ys.length := by simpa using h3
  refine Y.condT (F.ev 10 (.bool true)) ?_
  refine Y.sg F [(4, .bool false)] (Y.pv F (X.assign rfl (X.kc (.bool false) rfl)) fun ac F=>Y.fin F) ?_;clear F ac;intro ac F
  refine Y.ret ?_
  refine X.thenR ?_
  exact Y.ret0 (v := .bool false) F (Y.r1 F) ⟨by rw [show decide (xs = ys) = false by simp only [decide_eq_false_iff_not]; intro e; subst e; omega], G⟩
end
section
open Go.RowKit

theorem cnt_start {W : World} {b : Nat} (h : OwnP W b 1 (VL [.int .i64 0])) : CntK b 0 (fun x => x = b) (fun _ => False) W :=
  ⟨h.congr (fun k hk => by
    have : k = 0 := by omega
    subst this
    rw [wri_small (by decide) (by decide)]; rfl), rfl, rfl⟩
set_option maxRecDepth 100000 in
set_option maxHeartbeats 2000000 in
theorem list_any (p : Pb) (ta ha ba la : Option Addr) (tc hc bc lc : Nat) (most : Int) (w : World) (hP : PbAt w p ta ha ba la tc hc bc lc) :
  Calls Try.prog 25 #[.agg #[.slice ta p.nt tc, .slice ha p.nh hc, .slice ba p.nb bc, .slice la p.nl lc], Vi most] w fun e w' => ∃ a c E, e = .returned (.tuple #[.slice a (List.length E) c, Vi (listE p most)]) ∧ RrAt w' a E ∧ E.map BegE.xs = listL p most ∧ E.length ≤ 1024 ∧ Gr w w' := by
 have G := Gr.refl w
 have hpt := hP.t
 have hph := hP.h
 have hpb := hP.b
 have hpl := hP.l
 have hplen := hP.len
 obtain ⟨hn1, hn2, hn3, hn4⟩ := hplen
 have hcp1 := hpt.cap
 have hcp2 := hph.cap
 have hcp3 := hpb.cap
 have hcp4 := hpl.cap
 refine Y.calls 21 Try.func25 rfl rfl ?_
 intro ac F0
 have F : Fr ac 21 [(0, .agg #[.slice ta p.nt tc, .slice ha p.nh hc, .slice ba p.nb bc, .slice la p.nl lc]), (1, Vi most)] := F0.sub _
 clear F0
 refine Y.sl ?_
 have hgs3 : w.heap.size ≤ w.heap.size := G.size
 refine Y.pv F (X.box rfl (F.ev 0 (.agg #[.slice ta p.nt tc, .slice ha p.nh hc, .slice ba p.nb bc, .slice la p.nl lc])) X.bx) ?_;clear F ac;intro ac F
 have hgs5 : w.heap.size ≤ w.heap.size := G.size
 have g := Gr.alloc w (.cells #[.slice ta p.nt tc, .slice ha p.nh hc, .slice ba p.nb bc, .slice la p.nl lc] 27)
 have hb := heap_alloc_new w (.cells #[.slice ta p.nt tc, .slice ha p.nh hc, .slice ba p.nb bc, .slice la p.nl lc] 27)
 have hbl : w.heap.size < (w.alloc (.cells #[.slice ta p.nt tc, .slice ha p.nh hc, .slice ba p.nb bc, .slice la p.nl lc] 27)).heap.size := by simp
 have hC2 : RCells (w.alloc (.cells #[.slice ta p.nt tc, .slice ha p.nh hc, .slice ba p.nb bc, .slice la p.nl lc] 27)) [(Ad w.heap.size 0, .slice ta p.nt tc), (Ad w.heap.size 1, .slice ha p.nh hc), (Ad w.heap.size 2, .slice ba p.nb bc), (Ad w.heap.size 3, .slice la p.nl lc)] := (RCells.nil w).box (b := w.heap.size) #[.slice ta p.nt tc, .slice ha p.nh hc, .slice ba p.nb bc, .slice la p.nl lc] 27 rfl
 generalize w.alloc (.cells #[.slice ta p.nt tc, .slice ha p.nh hc, .slice ba p.nb bc, .slice la p.nl lc] 27) = w6 at *
 replace G := G.trans g
 have hC := hC2
 clear hC2
 replace hpt := hpt.gr g
 replace hph := hph.gr g
 replace hpb := hpb.gr g
 replace hpl := hpl.gr g
 have hsz4 := hbl
 clear g hb hbl
 refine Y.pv F (X.assign rfl (X.kc (.slice none 0 0) rfl)) ?_;clear F ac;intro ac F
 refine Y.pv F (X.assign rfl (X.kc (Vi 0) rfl)) ?_;clear F ac;intro ac F
 refine Y.nt F [(1, Vi most), (2, Vp w.heap.size)] ?_;clear F ac;intro ac F
 refine Y.seq ?_
 refine Y.sl ?_
 refine Y.pv F (X.load rfl (F.ev 2 (Vp w.heap.size)) (X.ldN (Try.agg27 _) (Try.siz27 _) (Y.atz (⟨w.heap.size, 0, none⟩) (Y.AtFrom.cons (hC.at 0 rfl) (Y.AtFrom.cons (hC.at 1 rfl) (Y.AtFrom.cons (hC.at 2 rfl) (Y.AtFrom.cons (hC.at 3 rfl) (Y.AtFrom.nil _ _ _)))))))) ?_;clear F ac;intro ac F
 refine Y.pc F 18 (X.a1 (F.ev 7 (.agg #[.slice ta p.nt tc, .slice ha p.nh hc, .slice ba p.nb bc, .slice la p.nl lc]))) Try.func18 (check_any p ta ha ba la tc hc bc lc w6 (hP.gr G)) ?_
 clear F ac
 rintro e w7 ⟨rfl, g⟩
 refine ⟨_, rfl, ?_⟩
 intro ac F
 replace G := G.trans g
 replace hC := hC.gr g
 replace hpt := hpt.gr g
 replace hph := hph.gr g
 replace hpb := hpb.gr g
 replace hpl := hpl.gr g
 clear g
 refine Y.pv F (X.assign rfl (F.ev 8 (Vi (chkE p)))) ?_;clear F ac;intro ac F
 refine Y.nt F [(1, Vi most), (2, Vp w.heap.size), (6, Vi (chkE p))] ?_;clear F ac;intro ac F
 refine Y.sg F [(1, Vi most), (2, Vp w.heap.size), (6, Vi (chkE p)), (10, .bool ((chkE p : Int) != 0))] (Y.pv F (X.move rfl (F.ev 6 (Vi (chkE p)))) fun ac F=>Y.pv F (X.binop rfl (F.ev 9 (Vi (chkE p))) (X.kc (Vi 0) rfl) (X.neqI Try.underlying31 rfl)) fun ac F=>Y.fin F) ?_;clear F ac;intro ac F
 cases h8 : ((chkE p : Int) != 0) with
 | false =>
  try rw [h8] at F
  have h8p : (chkE p : Int) = 0 := by simpa using h8
  have hck : chkE p = 0 := by omega
  have hp := chk_ok hck
  refine Y.condF (F.ev 10 (.bool false)) ?_
  refine Y.skip ?_
  refine X.thenN ?_
  refine Y.seq ?_
  refine Y.sl ?_
  refine Y.pv F (X.move rfl (F.ev 1 (Vi most))) ?_;clear F ac;intro ac F
  refine Y.pc F 56 (X.a3 (F.ev 12 (Vi most)) (X.kc (Vi 1) rfl) (X.kc (Vi 64) rfl)) Try.func56 (within_any most 1 64 w7) ?_
  clear F ac
  rintro e w' ⟨rfl, hw_⟩
  obtain rfl : w7 = w' := hw_.symm
  clear hw_
  refine ⟨_, rfl, ?_⟩
  intro ac F
  refine Y.pv F (X.notB rfl (F.ev 13 (.bool (withinB most 1 64))) rfl) ?_;clear F ac;intro ac F
  refine Y.nt F [(1, Vi most), (2, Vp w.heap.size), (14, .bool (!(withinB most 1 64)))] ?_;clear F ac;intro ac F
  cases h9 : withinB most 1 64 with
  | false =>
   try rw [h9] at F
   have hwi := within_iff (n := most) (a := 1) (b := 64)
   rw [h9] at hwi
   have hw2 : ¬ (1 ≤ most ∧ most ≤ 64) := fun e => by have := hwi.2 e; cases this
   refine Y.condT (F.ev 14 (.bool true)) ?_
   refine Y.sg F [(4, .slice none 0 0), (5, Vi 1)] (Y.pv F (X.assign rfl (X.kc (.slice none 0 0) rfl)) fun ac F=>Y.pv F (X.assign rfl (X.kc (Vi 1) rfl)) fun ac F=>Y.fin F) ?_;clear F ac;intro ac F
   refine Y.ret ?_
   refine X.thenR ?_
   have hb := list_2 (p := p) (most := most) hck (by omega)
   exact Y.ret0 (v := .tuple #[.slice none 0 0, Vi 1]) F (Y.rs2 F rfl (by kernel_rfl) (by kernel_rfl)) ⟨none, 0, [], by rw [hb.1]; rfl, RrAt.nil _ _, hb.2.symm, by decide, G⟩
  | true =>
   try rw [h9] at F
   have hwi := within_iff (n := most) (a := 1) (b := 64)
   rw [h9] at hwi
   have hw2 := hwi.1 rfl
   obtain ⟨mn, rfl⟩ : ∃ mn : Nat, most = (mn : Int) := ⟨most.toNat, by omega⟩
   refine Y.condF (F.ev 14 (.bool false)) ?_
   refine Y.skip ?_
   refine X.thenN ?_
   refine Y.sl ?_
   refine Y.pv F (X.load rfl (F.ev 2 (Vp w.heap.size)) (X.ldN (Try.agg27 _) (Try.siz27 _) (Y.atz (⟨w.heap.size, 0, none⟩) (Y.AtFrom.cons (hC.at 0 rfl) (Y.AtFrom.cons (hC.at 1 rfl) (Y.AtFrom.cons (hC.at 2 rfl) (Y.AtFrom.cons (hC.at 3 rfl) (Y.AtFrom.nil _ _ _)))))))) ?_;clear F ac;intro ac F
   refine Y.pv F (X.move rfl (F.ev 1 (Vi mn))) ?_;clear F ac;intro ac F
   refine Y.pc F 64 (X.a3 (F.ev 15 (.agg #[.slice ta p.nt tc, .slice ha p.nh hc, .slice ba p.nb bc, .slice la p.nl lc])) (F.ev 16 (Vi mn)) (X.kc (.func (.func 65) #[] #[]) rfl)) Try.func64 (first_any p ta ha ba la tc hc bc lc mn 65 #[] stillF w7 (hP.gr G) hp (by omega) (enters_of Try.func65 (by kernel_rfl) rfl) (fun W xs a c g hi hl hx => still_any a xs.length c W)) ?_
   clear F ac
   have hfG := G
   rintro e w10 ⟨rb, kv, lv, L, B, rfl, hRk, hV, hrb, hBw, hLm, g⟩
   refine ⟨_, rfl, ?_⟩
   intro ac F
   replace G := G.trans g
   replace hC := hC.gr g
   replace hpt := hpt.gr g
   replace hph := hph.gr g
   replace hpb := hpb.gr g
   replace hpl := hpl.gr g
   clear g
   rw [still_law hp (by omega)] at hV
   injection hV with hV
   replace hV := hV.symm
   obtain ⟨ka, kc, rfl⟩ := hRk.k.form
   obtain ⟨la9, lc9, rfl⟩ := hRk.l.form
   refine Y.pv F (Y.nilC rfl (F.ev 17 (Vp rb))) ?_;clear F ac;intro ac F
   refine Y.pv F (X.field rfl (F.ev 18 (Vp rb)) (X.fld Try.underlying91 rfl (Try.siz38 _) rfl rfl)) ?_;clear F ac;intro ac F
   replace hC : RCells w10 [(Ad w.heap.size 0, .slice ta p.nt tc), (Ad w.heap.size 1, .slice ha p.nh hc), (Ad w.heap.size 2, .slice ba p.nb bc), (Ad w.heap.size 3, .slice la p.nl lc), (Ad rb 0, Vi (mn : Nat)), (Ad rb 1, .slice ka L.length kc), (Ad rb 2, .slice la9 L.length lc9)] := hC.append ((RCells.cons (hRk.own.cell (k := 0) (by decide)) (RCells.cons (hRk.own.cell (k := 1) (by decide)) (RCells.cons (hRk.own.cell (k := 2) (by decide)) (RCells.nil _)))))
   refine Y.pv F (X.load rfl (F.ev 19 (.pointer (some ⟨rb, 2, none⟩))) (X.ld1 (Try.agg38 _) (hC.at 6 rfl))) ?_;clear F ac;intro ac F
   refine Y.pv F (X.assign rfl (F.ev 20 (.slice la9 L.length lc9))) ?_;clear F ac;intro ac F
   refine Y.pv F (X.assign rfl (X.kc (Vi 0) rfl)) ?_;clear F ac;intro ac F
   refine Y.nt F [(4, .slice la9 L.length lc9), (5, Vi 0)] ?_;clear F ac;intro ac F
   refine Y.ret ?_
   have hb := list_3 (p := p) (most := (mn : Int)) hck (by omega)
   exact Y.ret0 (v := .tuple #[.slice la9 L.length lc9, Vi 0]) F (Y.rs2 F rfl (by kernel_rfl) (by kernel_rfl)) ⟨_, _, L.map (·.2), by rw [hb.1, List.length_map], rr_own hRk.l (fun y hy => (hRk.b y hy).i), by rw [hb.2, strip_xs, hV, List.map_take]; rfl, by rw [List.length_map]; omega, G⟩
 | true =>
  try rw [h8] at F
  have h8p : ¬ (chkE p : Int) = 0 := by simpa using h8
  refine Y.condT (F.ev 10 (.bool true)) ?_
  refine Y.sg F [(4, .slice none 0 0), (5, Vi (chkE p))] (Y.pv F (X.move rfl (F.ev 6 (Vi (chkE p)))) fun ac F=>Y.pv F (X.assign rfl (X.kc (.slice none 0 0) rfl)) fun ac F=>Y.pv F (X.assign rfl (F.ev 11 (Vi (chkE p)))) fun ac F=>Y.fin F) ?_;clear F ac;intro ac F
  refine Y.ret ?_
  refine X.thenR ?_
  have hb := list_1 (p := p) (most := most) (by omega)
  exact Y.ret0 (v := .tuple #[.slice none 0 0, Vi (chkE p)]) F (Y.rs2 F rfl (by kernel_rfl) (by kernel_rfl)) ⟨none, 0, [], by rw [hb.1]; rfl, RrAt.nil _ _, hb.2.symm, by decide, G⟩
set_option maxRecDepth 100000 in
set_option maxHeartbeats 2000000 in
theorem count_any (p : Pb) (ta ha ba la : Option Addr) (tc hc bc lc : Nat) (w : World) (hP : PbAt w p ta ha ba la tc hc bc lc) :
  Calls Try.prog 27 #[.agg #[.slice ta p.nt tc, .slice ha p.nh hc, .slice ba p.nb bc, .slice la p.nl lc]] w fun e w' => e = .returned (.tuple #[Vi (countV p), Vi (chkE p)]) ∧ Gr w w' := by
 have G := Gr.refl w
 have hpt := hP.t
 have hph := hP.h
 have hpb := hP.b
 have hpl := hP.l
 have hplen := hP.len
 obtain ⟨hn1, hn2, hn3, hn4⟩ := hplen
 have hcp1 := hpt.cap
 have hcp2 := hph.cap
 have hcp3 := hpb.cap
 have hcp4 := hpl.cap
 refine Y.calls 30 Try.func27 rfl rfl ?_
 intro ac F0
 have F : Fr ac 30 [(0, .agg #[.slice ta p.nt tc, .slice ha p.nh hc, .slice ba p.nb bc, .slice la p.nl lc])] := F0.sub _
 clear F0
 refine Y.sl ?_
 have hgs3 : w.heap.size ≤ w.heap.size := G.size
 refine Y.pv F (X.box rfl (F.ev 0 (.agg #[.slice ta p.nt tc, .slice ha p.nh hc, .slice ba p.nb bc, .slice la p.nl lc])) X.bx) ?_;clear F ac;intro ac F
 have hgs5 : w.heap.size ≤ w.heap.size := G.size
 have g := Gr.alloc w (.cells #[.slice ta p.nt tc, .slice ha p.nh hc, .slice ba p.nb bc, .slice la p.nl lc] 27)
 have hb := heap_alloc_new w (.cells #[.slice ta p.nt tc, .slice ha p.nh hc, .slice ba p.nb bc, .slice la p.nl lc] 27)
 have hbl : w.heap.size < (w.alloc (.cells #[.slice ta p.nt tc, .slice ha p.nh hc, .slice ba p.nb bc, .slice la p.nl lc] 27)).heap.size := by simp
 have hC2 : RCells (w.alloc (.cells #[.slice ta p.nt tc, .slice ha p.nh hc, .slice ba p.nb bc, .slice la p.nl lc] 27)) [(Ad w.heap.size 0, .slice ta p.nt tc), (Ad w.heap.size 1, .slice ha p.nh hc), (Ad w.heap.size 2, .slice ba p.nb bc), (Ad w.heap.size 3, .slice la p.nl lc)] := (RCells.nil w).box (b := w.heap.size) #[.slice ta p.nt tc, .slice ha p.nh hc, .slice ba p.nb bc, .slice la p.nl lc] 27 rfl
 generalize w.alloc (.cells #[.slice ta p.nt tc, .slice ha p.nh hc, .slice ba p.nb bc, .slice la p.nl lc] 27) = w6 at *
 replace G := G.trans g
 have hC := hC2
 clear hC2
 replace hpt := hpt.gr g
 replace hph := hph.gr g
 replace hpb := hpb.gr g
 replace hpl := hpl.gr g
 have hsz4 := hbl
 clear g hb hbl
 refine Y.pv F (X.assign rfl (X.kc (Vi 0) rfl)) ?_;clear F ac;intro ac F
 refine Y.pv F (X.assign rfl (X.kc (Vi 0) rfl)) ?_;clear F ac;intro ac F
 refine Y.nt F [(1, Vp w.heap.size)] ?_;clear F ac;intro ac F
 refine Y.seq ?_
 refine Y.sl ?_
 refine Y.pv F (X.load rfl (F.ev 1 (Vp w.heap.size)) (X.ldN (Try.agg27 _) (Try.siz27 _) (Y.atz (⟨w.heap.size, 0, none⟩) (Y.AtFrom.cons (hC.at 0 rfl) (Y.AtFrom.cons (hC.at 1 rfl) (Y.AtFrom.cons (hC.at 2 rfl) (Y.AtFrom.cons (hC.at 3 rfl) (Y.AtFrom.nil _ _ _)))))))) ?_;clear F ac;intro ac F
 refine Y.pc F 18 (X.a1 (F.ev 7 (.agg #[.slice ta p.nt tc, .slice ha p.nh hc, .slice ba p.nb bc, .slice la p.nl lc]))) Try.func18 (check_any p ta ha ba la tc hc bc lc w6 (hP.gr G)) ?_
 clear F ac
 rintro e w7 ⟨rfl, g⟩
 refine ⟨_, rfl, ?_⟩
 intro ac F
 replace G := G.trans g
 replace hC := hC.gr g
 replace hpt := hpt.gr g
 replace hph := hph.gr g
 replace hpb := hpb.gr g
 replace hpl := hpl.gr g
 clear g
 refine Y.pv F (X.assign rfl (F.ev 8 (Vi (chkE p)))) ?_;clear F ac;intro ac F
 refine Y.nt F [(1, Vp w.heap.size), (4, Vi (chkE p))] ?_;clear F ac;intro ac F
 refine Y.sg F [(1, Vp w.heap.size), (4, Vi (chkE p)), (10, .bool ((chkE p : Int) != 0))] (Y.pv F (X.move rfl (F.ev 4 (Vi (chkE p)))) fun ac F=>Y.pv F (X.binop rfl (F.ev 9 (Vi (chkE p))) (X.kc (Vi 0) rfl) (X.neqI Try.underlying31 rfl)) fun ac F=>Y.fin F) ?_;clear F ac;intro ac F
 cases h8 : ((chkE p : Int) != 0) with
 | false =>
  try rw [h8] at F
  have h8p : (chkE p : Int) = 0 := by simpa using h8
  have hck : chkE p = 0 := by omega
  have hp := chk_ok hck
  refine Y.condF (F.ev 10 (.bool false)) ?_
  refine Y.skip ?_
  refine X.thenN ?_
  refine Y.sl ?_
  refine Y.pv F (Y.al rfl (Try.new3 _)) ?_;clear F ac;intro ac F
  refine Y.punit F (X.w0 rfl) rfl (X.store rfl (F.ev 5 (Vp w7.heap.size)) (X.kc (Vi 0) rfl) (Y.stNew1 (Vi 0) (Vi 0) (Try.siz3 _) rfl rfl)) ?_;clear F ac;intro ac F
  have hbl9 : w.heap.size < w7.heap.size := lt_cell (hC.at 0 rfl)
  have g := Gr.alloc w7 (.cells #[Vi 0] 3)
  have hb := heap_alloc_new w7 (.cells #[Vi 0] 3)
  have hszw10 : w7.heap.size < (w7.alloc (.cells #[Vi 0] 3)).heap.size := by simp
  have hgsw10 : w.heap.size ≤ w7.heap.size := G.size
  generalize w7.alloc (.cells #[Vi 0] 3) = w10 at *
  replace G := G.trans g
  replace hC := hC.gr g
  replace hpt := hpt.gr g
  replace hph := hph.gr g
  replace hpb := hpb.gr g
  replace hpl := hpl.gr g
  have hVw10 : OwnP w10 w7.heap.size 1 (VL [Vi 0]) := ownP_bx (vs := [Vi 0]) hb
  clear g hb
  refine Y.nt F [(1, Vp w.heap.size), (5, Vp w7.heap.size)] ?_;clear F ac;intro ac F
  refine Y.seq ?_
  refine Y.sl ?_
  refine Y.pv F (X.load rfl (F.ev 1 (Vp w.heap.size)) (X.ldN (Try.agg27 _) (Try.siz27 _) (Y.atz (⟨w.heap.size, 0, none⟩) (Y.AtFrom.cons (hC.at 0 rfl) (Y.AtFrom.cons (hC.at 1 rfl) (Y.AtFrom.cons (hC.at 2 rfl) (Y.AtFrom.cons (hC.at 3 rfl) (Y.AtFrom.nil _ _ _)))))))) ?_;clear F ac;intro ac F
  refine Y.pc F 69 (X.a1 (F.ev 12 (.agg #[.slice ta p.nt tc, .slice ha p.nh hc, .slice ba p.nb bc, .slice la p.nl lc]))) Try.func69 (nodes_any p ta ha ba la tc hc bc lc w10) ?_
  clear F ac
  have hpre9 := G.size
  rintro e w11 ⟨bn12, rfl, hbn9, hcn, g⟩
  refine ⟨_, rfl, ?_⟩
  intro ac F
  replace G := G.trans g
  replace hC := hC.gr g
  replace hpt := hpt.gr g
  replace hph := hph.gr g
  replace hpb := hpb.gr g
  replace hpl := hpl.gr g
  replace hVw10 := hVw10.gr g
  clear g
  replace hC : RCells w11 [(Ad w.heap.size 0, .slice ta p.nt tc), (Ad w.heap.size 1, .slice ha p.nh hc), (Ad w.heap.size 2, .slice ba p.nb bc), (Ad w.heap.size 3, .slice la p.nl lc), (Ad bn12 0, .slice ta p.nt tc), (Ad bn12 1, .slice ha p.nh hc), (Ad bn12 2, .slice ba p.nb bc), (Ad bn12 3, .slice la p.nl lc)] := hC.append ((RCells.cons (hcn.at 0 rfl) (RCells.cons (hcn.at 1 rfl) (RCells.cons (hcn.at 2 rfl) (RCells.cons (hcn.at 3 rfl) (RCells.nil _))))))
  refine Y.nt F [(1, Vp w.heap.size), (5, Vp w7.heap.size), (13, .func (.func 102) #[] #[Vp bn12])] ?_;clear F ac;intro ac F
  refine Y.block ?_
  replace F : Fr ac 30 [(1, Vp w.heap.size), (5, Vp w7.heap.size), (13, .func (.func 102) #[] #[Vp bn12])] := F.sub _
  have hgw := G.size
  have hCn : RCells w11 (PbC p ta ha ba la tc hc bc lc bn12) := (RCells.cons (hC.at 4 rfl) (RCells.cons (hC.at 5 rfl) (RCells.cons (hC.at 6 rfl) (RCells.cons (hC.at 7 rfl) (RCells.nil _)))))
  have hzl13 : bn12 < w11.heap.size := lt_cell (hC.at 4 rfl)
  have hzl14 : w.heap.size < w11.heap.size := lt_cell (hC.at 0 rfl)
  have hzy15 : w7.heap.size < w11.heap.size := hVw10.lt
  have hPb : ∀ W, Only (fun b => b = w7.heap.size) w11 W → PbAt W p ta ha ba la tc hc bc lc ∧ RCells W (PbC p ta ha ba la tc hc bc lc bn12) := fun W h => ⟨hP.gr (Y.Only.up G h (by omega)), hCn.only h (fun q hq e => by
   simp [PbC] at hq
   rcases hq with rfl | rfl | rfl | rfl <;> (first | omega | (simp only at e; omega)))⟩
  have hK0 := cnt_start hVw10
  have hCl := hC
  have Gl := G
  refine Y.ndRange (D := []) (p := p) (ta := ta) (ha := ha) (ba := ba) (la := la) (tc := tc) (hc := hc) (bc := bc) (lc := lc) (bp := bn12) F (by decide) (by decide) rfl rfl rfl rfl rfl rfl rfl (F.ev 13 _) hp (fun b => b = w7.heap.size) (fun b e => by first | omega | (first | omega | (simp only at e; omega))) hPb (cntF p) (0) (CntK w7.heap.size) (fun b => b = w7.heap.size) (fun _ => False) hK0 (fun b e => by exact e) (fun s O Kp W h => h.lt) (fun s O Kp W W2 h g => h.gr g) (fun s O Kp W W2 h h2 g => h.only (fun b e => by first | omega | (simp only at e; omega)) h2 g) (fun _ _ => False) (fun _ _ _ h => h) ?_ ?_ ?_
  ·intro ss O Kp xs a c d b w16 ac hQ hK hOs hlen hx hBeg hdg hdO hdK haO had hD hbg hbd hbO hbK hab hN F
   clear G hC
   have hPW := (hPb w16 hQ).1
   have G := Gr.refl w16
   have hsw := hQ.size
   have hC : RCells w16 [(Ad w.heap.size 0, .slice ta p.nt tc), (Ad w.heap.size 1, .slice ha p.nh hc), (Ad w.heap.size 2, .slice ba p.nb bc), (Ad w.heap.size 3, .slice la p.nl lc), (Ad bn12 0, .slice ta p.nt tc), (Ad bn12 1, .slice ha p.nh hc), (Ad bn12 2, .slice ba p.nb bc), (Ad bn12 3, .slice la p.nl lc), (Ad b 0, .slice a xs.length c), (Ad b 1, .bool (hopeB p (tim p) xs)), (Ad b 2, Vi (bndV p xs)), (Ad b 3, Vp d)] := (RCells.cons (hQ.cell (hCl.at 0 rfl) (by simp only; omega)) (RCells.cons (hQ.cell (hCl.at 1 rfl) (by simp only; omega)) (RCells.cons (hQ.cell (hCl.at 2 rfl) (by simp only; omega)) (RCells.cons (hQ.cell (hCl.at 3 rfl) (by simp only; omega)) (RCells.cons (hQ.cell (hCl.at 4 rfl) (by simp only; omega)) (RCells.cons (hQ.cell (hCl.at 5 rfl) (by simp only; omega)) (RCells.cons (hQ.cell (hCl.at 6 rfl) (by simp only; omega)) (RCells.cons (hQ.cell (hCl.at 7 rfl) (by simp only; omega)) hN))))))))
   replace hpt := hPW.t
   replace hph := hPW.h
   replace hpb := hPW.b
   replace hpl := hPW.l
   replace F : Fr ac 30 [(1, Vp w.heap.size), (5, Vp w7.heap.size), (6, Vp b), (13, .func (.func 102) #[] #[Vp bn12]), (14, .agg #[.slice a xs.length c, .bool (hopeB p (tim p) xs), Vi (bndV p xs), Vp d])] := F.sub _
   obtain ⟨hCt, rfl, rfl⟩ := hK
   refine Y.block ?_
   refine Y.sl ?_
   refine Y.pv F (X.field rfl (F.ev 6 (Vp b)) (X.fld Try.underlying102 rfl (Try.siz4 _) rfl rfl)) ?_;clear F ac;intro ac F
   refine Y.pv F (X.load rfl (F.ev 15 (.pointer (some ⟨b, 1, none⟩))) (X.ld1 (Try.agg4 _) (hC.at 9 rfl))) ?_;clear F ac;intro ac F
   refine Y.pv F (X.notB rfl (F.ev 16 (.bool (hopeB p (tim p) xs))) rfl) ?_;clear F ac;intro ac F
   refine Y.pv F (X.move rfl (F.ev 17 (.bool (!(hopeB p (tim p) xs))))) ?_;clear F ac;intro ac F
   cases h17 : hopeB p (tim p) xs with
   | false =>
    try rw [h17] at F
    refine Y.pg F 3 18 true (X.field rfl (F.ev 6 (Vp b)) (X.fld Try.underlying102 rfl (Try.siz34 _) rfl rfl)) ?_;clear F ac;intro ac F
    refine Y.pg F 3 18 true (X.load rfl (F.ev 19 (Vp b)) (X.ld1 (Try.agg34 _) (hC.at 8 rfl))) ?_;clear F ac;intro ac F
    refine Y.pg F 3 18 true (X.len1 Try.underlying34 rfl (F.ev 20 (.slice a xs.length c))) ?_;clear F ac;intro ac F
    refine Y.pg F 3 18 true (X.field rfl (F.ev 1 (Vp w.heap.size)) (X.fld Try.underlying27 rfl (Try.siz22 _) rfl rfl)) ?_;clear F ac;intro ac F
    refine Y.pg F 3 18 true (X.load rfl (F.ev 22 (Vp w.heap.size)) (X.ld1 (Try.agg22 _) (hC.at 0 rfl))) ?_;clear F ac;intro ac F
    refine Y.pg F 3 18 true (X.len1 Try.underlying22 rfl (F.ev 23 (.slice ta p.nt tc))) ?_;clear F ac;intro ac F
    refine Y.pg F 3 18 true (X.binop rfl (F.ev 21 (Vi xs.length)) (F.ev 24 (Vi p.nt)) (X.eqlI Try.underlying3 rfl)) ?_;clear F ac;intro ac F
    refine Y.pv F (X.pickT rfl (F.ev 18 (.bool true)) (F.ev 25 (.bool ((xs.length : Int) == p.nt)))) ?_;clear F ac;intro ac F
    refine Y.nt F [(1, Vp w.heap.size), (5, Vp w7.heap.size), (26, .bool ((xs.length : Int) == p.nt))] ?_;clear F ac;intro ac F
    cases h18 : ((xs.length : Int) == p.nt) with
    | false =>
     try rw [h18] at F
     have h18p : ¬ (xs.length : Int) = p.nt := by simpa using h18
     refine Y.condF (F.ev 26 (.bool false)) ?_
     refine Y.skip ?_
     refine X.blockN ?_
     have est : cntF p ss xs = _ := cnt_n (by omega)
     refine ⟨?_, ?_, ?_, ?_⟩
     ·exact G.only _
     ·rw [est]; exact ⟨_, _, ⟨hCt, rfl, rfl⟩, fun b e => .inl e⟩
     ·rw [est]; exact hD
     ·rw [est]
    | true =>
     try rw [h18] at F
     have h18p : (xs.length : Int) = p.nt := by simpa using h18
     refine Y.condT (F.ev 26 (.bool true)) ?_
     refine Y.lit (by kernel_rfl) ?_
     replace hC : RCells w16 [(Ad w.heap.size 0, .slice ta p.nt tc), (Ad w.heap.size 1, .slice ha p.nh hc), (Ad w.heap.size 2, .slice ba p.nb bc), (Ad w.heap.size 3, .slice la p.nl lc), (Ad bn12 0, .slice ta p.nt tc), (Ad bn12 1, .slice ha p.nh hc), (Ad bn12 2, .slice ba p.nb bc), (Ad bn12 3, .slice la p.nl lc), (Ad b 0, .slice a xs.length c), (Ad b 1, .bool (hopeB p (tim p) xs)), (Ad b 2, Vi (bndV p xs)), (Ad b 3, Vp d), (Ad w7.heap.size 0, Vi (wri ss))] := hC.append ((RCells.cons (hCt.cell (k := 0) (by omega)) (RCells.nil _)))
     refine Y.pv F (X.load rfl (F.ev 5 (Vp w7.heap.size)) (X.ld1 (Try.agg3 _) (hC.at 12 rfl))) ?_;clear F ac;intro ac F
     refine Y.pv F (X.binop rfl (F.ev 27 (Vi (wri ss))) (X.kc (Vi 1) rfl) (X.addW Try.underlying3)) ?_;clear F ac;intro ac F
     refine Y.punit F (X.w0 rfl) rfl (X.store rfl (F.ev 5 (Vp w7.heap.size)) (F.ev 28 (Vi (wri (ss + 1)))) (hCt.st1 (Try.siz3 _) rfl rfl (by decide))) ?_;clear F ac;intro ac F
     have hon := Y.set_only w16 w7.heap.size 0 (Vi (wri (ss + 1)))
     have hCt2 := (hCt.set (k := 0) (Vi (wri (ss + 1)))).congr (val' := fun _ => Vi (wri (ss + 1))) (fun k hk => if_pos (by omega))
     generalize w16.setCell ⟨w7.heap.size, 0, none⟩ (Vi (wri (ss + 1))) = w19 at *
     have hO2 : Only (fun x => x = w7.heap.size ∨ x = d) w16 w19 := (G.only _).trans (hon.mono' (fun i e => .inl e))
     have hD2 := hD.only hon (fun e => hdO e)
     clear G hC
     refine Y.nil ?_
     replace F : Fr ac 30 [(1, Vp w.heap.size), (5, Vp w7.heap.size)] := F.sub _
     refine X.blockN ?_
     have est : cntF p ss xs = _ := cnt_p h17 (by omega)
     refine ⟨?_, ?_, ?_, ?_⟩
     ·exact hO2
     ·rw [est]; exact ⟨_, _, ⟨hCt2, rfl, rfl⟩, fun b e => .inl e⟩
     ·rw [est]; exact hD2
     ·rw [est]
   | true =>
    try rw [h17] at F
    refine Y.ps F 3 18 false ?_;clear F ac;intro ac F
    refine Y.ps F 3 18 false ?_;clear F ac;intro ac F
    refine Y.ps F 3 18 false ?_;clear F ac;intro ac F
    refine Y.ps F 3 18 false ?_;clear F ac;intro ac F
    refine Y.ps F 3 18 false ?_;clear F ac;intro ac F
    refine Y.ps F 3 18 false ?_;clear F ac;intro ac F
    refine Y.ps F 3 18 false ?_;clear F ac;intro ac F
    refine Y.pv F (X.pickF rfl (F.ev 18 (.bool false)) (X.kc (.bool false) rfl)) ?_;clear F ac;intro ac F
    refine Y.nt F [(1, Vp w.heap.size), (5, Vp w7.heap.size), (26, .bool false)] ?_;clear F ac;intro ac F
    refine Y.condF (F.ev 26 (.bool false)) ?_
    refine Y.skip ?_
    refine X.blockN ?_
    have est : cntF p ss xs = _ := cnt_h h17
    refine ⟨?_, ?_, ?_, ?_⟩
    ·exact G.only _
    ·rw [est]; exact ⟨_, _, ⟨hCt, rfl, rfl⟩, fun b e => .inl e⟩
    ·rw [est]; exact hD
    ·rw [est]
  ·intro ss O Kp w20 ac hV hQ hK hOs hmk F
   clear G hC
   have hmk := hmk
   have hsw := hQ.size
   have G : Gr w w20 := (Y.Only.up Gl hQ (by omega))
   have hC := (RCells.cons (hQ.cell (hCl.at 0 rfl) (by simp only; omega)) (RCells.cons (hQ.cell (hCl.at 1 rfl) (by simp only; omega)) (RCells.cons (hQ.cell (hCl.at 2 rfl) (by simp only; omega)) (RCells.cons (hQ.cell (hCl.at 3 rfl) (by simp only; omega)) (RCells.cons (hQ.cell (hCl.at 4 rfl) (by simp only; omega)) (RCells.cons (hQ.cell (hCl.at 5 rfl) (by simp only; omega)) (RCells.cons (hQ.cell (hCl.at 6 rfl) (by simp only; omega)) (RCells.cons (hQ.cell (hCl.at 7 rfl) (by simp only; omega)) (RCells.nil _)))))))))
   replace hpt := (hP.t).gr G
   replace hph := (hP.h).gr G
   replace hpb := (hP.b).gr G
   replace hpl := (hP.l).gr G
   obtain ⟨hCt, hOe, hKe⟩ := hK
   rw [cnt_law] at hV
   injection hV with hV
   subst hV
   rw [wri_small (by omega) (by have := allP_small hp; omega)] at hCt
   refine X.blockN (X.thenN ?_)
   refine Y.sl ?_
   replace hC : RCells w20 [(Ad w.heap.size 0, .slice ta p.nt tc), (Ad w.heap.size 1, .slice ha p.nh hc), (Ad w.heap.size 2, .slice ba p.nb bc), (Ad w.heap.size 3, .slice la p.nl lc), (Ad bn12 0, .slice ta p.nt tc), (Ad bn12 1, .slice ha p.nh hc), (Ad bn12 2, .slice ba p.nb bc), (Ad bn12 3, .slice la p.nl lc), (Ad w7.heap.size 0, Vi ((allP p).length))] := hC.append ((RCells.cons (hCt.cell (k := 0) (by omega)) (RCells.nil _)))
   refine Y.pv F (X.load rfl (F.ev 5 (Vp w7.heap.size)) (X.ld1 (Try.agg3 _) (hC.at 8 rfl))) ?_;clear F ac;intro ac F
   refine Y.pv F (X.assign rfl (F.ev 29 (Vi ((allP p).length)))) ?_;clear F ac;intro ac F
   refine Y.pv F (X.assign rfl (X.kc (Vi 0) rfl)) ?_;clear F ac;intro ac F
   refine Y.nt F [(2, Vi ((allP p).length)), (3, Vi 0)] ?_;clear F ac;intro ac F
   refine Y.ret ?_
   refine ret_mark (v := .tuple #[Vi ((allP p).length), Vi 0]) F hmk (Y.rs2 F rfl (by kernel_rfl) (by kernel_rfl)) (fun W2 hW2 => ?_)
   exact ⟨by rw [count_1 hck, hck], Y.Only.up G hW2 (by omega)⟩
  ·exact fun _ _ _ _ h => h.elim
 | true =>
  try rw [h8] at F
  have h8p : ¬ (chkE p : Int) = 0 := by simpa using h8
  refine Y.condT (F.ev 10 (.bool true)) ?_
  refine Y.sg F [(2, Vi 0), (3, Vi (chkE p))] (Y.pv F (X.move rfl (F.ev 4 (Vi (chkE p)))) fun ac F=>Y.pv F (X.assign rfl (X.kc (Vi 0) rfl)) fun ac F=>Y.pv F (X.assign rfl (F.ev 11 (Vi (chkE p)))) fun ac F=>Y.fin F) ?_;clear F ac;intro ac F
  refine Y.ret ?_
  refine X.thenR ?_
  exact Y.ret0 (v := .tuple #[Vi 0, Vi (chkE p)]) F (Y.rs2 F rfl (by kernel_rfl) (by kernel_rfl)) ⟨by rw [count_0 (by omega)], G⟩
set_option maxRecDepth 100000 in
set_option maxHeartbeats 1000000 in
theorem srows_any (a b : Option Addr) (c d : Nat) (E D : List BegE) (w : World) (hX : RrAt w a E) (hY : RrAt w b D) (hl1 : E.length ≤ 100000) (hl2 : D.length ≤ 100000) :
  Calls Try.prog 29 #[.slice a E.length c, .slice b D.length d] w fun e w' => e = .returned (.bool (decide (E.map BegE.xs = D.map BegE.xs))) ∧ Gr w w' := by
 have G := Gr.refl w
 have hx := hX
 have hy := hY
 refine Y.calls 27 Try.func29 rfl rfl ?_
 intro ac F0
 have F : Fr ac 27 [(0, .slice a E.length c), (1, .slice b D.length d)] := F0.sub _
 clear F0
 refine Y.sg F [(0, .slice a E.length c), (1, .slice b D.length d)] (Y.pv F (X.assign rfl (X.kc (.bool false) rfl)) fun ac F=>Y.fin F) ?_;clear F ac;intro ac F
 refine Y.seq ?_
 refine Y.sg F [(0, .slice a E.length c), (1, .slice b D.length d), (10, .bool ((E.length : Int) != D.length))] (Y.pv F (X.move rfl (F.ev 0 (.slice a E.length c))) fun ac F=>Y.pv F (X.len1 Try.underlying38 rfl (F.ev 6 (.slice a E.length c))) fun ac F=>Y.pv F (X.move rfl (F.ev 1 (.slice b D.length d))) fun ac F=>Y.pv F (X.len1 Try.underlying38 rfl (F.ev 8 (.slice b D.length d))) fun ac F=>Y.pv F (X.binop rfl (F.ev 7 (Vi E.length)) (F.ev 9 (Vi D.length)) (X.neqI Try.underlying3 rfl)) fun ac F=>Y.fin F) ?_;clear F ac;intro ac F
 cases h3 : ((E.length : Int) != D.length) with
 | false =>
  try rw [h3] at F
  have h3p : (E.length : Int) = D.length := by simpa using h3
  have hl2 : E.length = D.length := by omega
  refine Y.condF (F.ev 10 (.bool false)) ?_
  refine Y.skip ?_
  refine X.thenN ?_
  refine Y.seq ?_
  refine Y.sg F [(0, .slice a E.length c), (1, .slice b D.length d), (5, Vi 0)] (Y.pv F (X.assign rfl (X.kc (Vi 0) rfl)) fun ac F=>Y.fin F) ?_;clear F ac;intro ac F
  refine Y.block ?_
  refine Y.loop (fun me_ ac wr => ∃ (i : Nat), me_ = E.length - i ∧ Only (fun b => False) w wr ∧ i ≤ E.length ∧ (∀ j x y, j < i → E[j]? = some x → D[j]? = some y → x.xs = y.xs) ∧ Fr ac 27 [(0, .slice a E.length c), (1, .slice b D.length d), (5, Vi i)]) _ ⟨0, rfl, Only.refl _ _, Nat.zero_le _, fun j x y h => by omega, F.sub _⟩ ?_
  have hxB1 := hx
  have hyB1 := hy
  have GB1 := G
  clear F ac
  intro me_ ac w4 hI
  obtain ⟨i, rfl, hO1, hi, hsame, F⟩ := hI
  replace G := GB1.trans (hO1.gr (fun _ _ h => h))
  replace hx := (hX).gr G
  replace hy := (hY).gr G
  refine Y.seq ?_
  refine Y.sg F [(0, .slice a E.length c), (1, .slice b D.length d), (5, Vi i), (14, .bool (decide ((i : Int) < E.length)))] (Y.pv F (X.move rfl (F.ev 5 (Vi i))) fun ac F=>Y.pv F (X.move rfl (F.ev 0 (.slice a E.length c))) fun ac F=>Y.pv F (X.len1 Try.underlying38 rfl (F.ev 12 (.slice a E.length c))) fun ac F=>Y.pv F (X.binop rfl (F.ev 11 (Vi i)) (F.ev 13 (Vi E.length)) (X.lssI Try.underlying3 rfl)) fun ac F=>Y.fin F) ?_;clear F ac;intro ac F
  cases h5 : decide ((i : Int) < E.length) with
  | false =>
   try rw [h5] at F
   have h5p : ¬ ((i : Int) < E.length) := of_decide_eq_false h5
   have hin : i = E.length := by omega
   refine Y.condF (F.ev 14 (.bool false)) ?_
   refine Y.exit ?_
   refine X.thenX (X.thenX (X.blockX (X.thenN ?_)))
   refine Y.sg F [(4, .bool true)] (Y.pv F (X.assign rfl (X.kc (.bool true) rfl)) fun ac F=>Y.fin F) ?_;clear F ac;intro ac F
   refine Y.ret ?_
   exact Y.ret0 (v := .bool true) F (Y.r1 F) ⟨by rw [rows_yes hl2 (fun j x y h1 h2 => hsame j x y (by have := (List.getElem?_eq_some_iff.1 h1).1; omega) h1 h2)], G⟩
  | true =>
   try rw [h5] at F
   have h5p : ((i : Int) < E.length) := of_decide_eq_true h5
   refine Y.condT (F.ev 14 (.bool true)) ?_
   refine Y.skip ?_
   refine X.thenN ?_
   refine Y.seq ?_
   refine Y.block ?_
   refine Y.seq ?_
   obtain ⟨xr6, hxxr6⟩ : ∃ x, E[i]? = some x := ⟨_, List.getElem?_eq_getElem (by omega)⟩
   obtain ⟨pd6, pe6, pc6, pI6⟩ := hx i xr6 hxxr6
   subst pe6
   have hC : RCells w4 [(pd6.add i, .slice xr6.a xr6.xs.length xr6.c)] := (RCells.cons pc6 (RCells.nil _))
   clear pc6
   obtain ⟨xr7, hxxr7⟩ : ∃ x, D[i]? = some x := ⟨_, List.getElem?_eq_getElem (by omega)⟩
   obtain ⟨pd7, pe7, pc7, pI7⟩ := hy i xr7 hxxr7
   subst pe7
   replace hC : RCells w4 [(pd6.add i, .slice xr6.a xr6.xs.length xr6.c), (pd7.add i, .slice xr7.a xr7.xs.length xr7.c)] := hC.append ((RCells.cons pc7 (RCells.nil _)))
   clear pc7
   refine Y.region F [some (.slice (some pd6) E.length c), some (Vi i), some (.pointer (some (pd6.add i))), some (.slice xr6.a xr6.xs.length xr6.c), some (.slice (some pd7) D.length d), some (Vi i), some (.pointer (some (pd7.add i))), some (.slice xr7.a xr7.xs.length xr7.c), some (.bool (decide (xr6.xs = xr7.xs))), some (.bool (!(decide (xr6.xs = xr7.xs))))] [] rfl ⟨by kernel_rfl, of_decide_eq_true (by kernel_rfl), by kernel_rfl, by kernel_rfl, by kernel_rfl⟩ ⟨?_, ?_, ?_, ?_, ?_, ?_, ?_, ?_, ?_, ?_, trivial⟩ ?_
   ·intro ac done u W Sx hR
    exact X.vl (X.move rfl (Sx.ev 0 (.slice (some pd6) E.length c))) hR.st0
   ·intro ac done u W Sx hR
    exact X.vl (X.move rfl (Sx.ev 5 (Vi i))) hR.st0
   ·intro ac done u W Sx hR
    exact X.val (X.w0 rfl) rfl (X.index rfl (Sx.ev 17 (.slice (some pd6) E.length c)) (Sx.ev 18 (Vi i)) (X.idx (k := i) Try.underlying38 (Try.siz34 _) (by omega) (by omega) (by rw [Nat.mul_one]))) hR.st0
   ·intro ac done u W Sx hR
    have g : Gr w4 W := hR.1
    exact X.vl (X.load rfl (Sx.ev 19 (.pointer (some (pd6.add i)))) (X.ld1 (Try.agg34 _) ((hC.gr g).at 0 rfl))) hR.st0
   ·intro ac done u W Sx hR
    exact X.vl (X.move rfl (Sx.ev 1 (.slice (some pd7) D.length d))) hR.st0
   ·intro ac done u W Sx hR
    exact X.vl (X.move rfl (Sx.ev 5 (Vi i))) hR.st0
   ·intro ac done u W Sx hR
    exact X.val (X.w0 rfl) rfl (X.index rfl (Sx.ev 21 (.slice (some pd7) D.length d)) (Sx.ev 22 (Vi i)) (X.idx (k := i) Try.underlying38 (Try.siz34 _) (by omega) (by omega) (by rw [Nat.mul_one]))) hR.st0
   ·intro ac done u W Sx hR
    have g : Gr w4 W := hR.1
    exact X.vl (X.load rfl (Sx.ev 23 (.pointer (some (pd7.add i)))) (X.ld1 (Try.agg34 _) ((hC.gr g).at 1 rfl))) hR.st0
   ·intro ac done u W Sx hR
    have g : Gr w4 W := hR.1
    refine X.call (X.w0 rfl) (X.enter (F := 24) rfl (X.kc (.func (.func 24) #[] #[]) rfl) (X.a2 (Sx.ev 20 (.slice xr6.a xr6.xs.length xr6.c)) (Sx.ev 24 (.slice xr7.a xr7.xs.length xr7.c))) (enters_of Try.func24 (by kernel_rfl) rfl _)) (same_any xr6.a xr7.a xr6.c xr7.c xr6.xs xr7.xs W (pI6.gr g) (pI7.gr g)) ?_
    rintro e W2 ⟨rfl, g2⟩
    exact ⟨_, rfl, X.kn rfl, hR.step g2 rfl⟩
   ·intro ac done u W Sx hR
    exact X.vl (X.notB rfl (Sx.ev 25 (.bool (decide (xr6.xs = xr7.xs)))) rfl) hR.st0
   intro ac u w8 hs hd hl ho hR
   have g : Gr w4 w8 := hR.1
   replace F : Fr ac 27 [(0, .slice (some pd6) E.length c), (1, .slice (some pd7) D.length d), (5, Vi i), (26, .bool (!(decide (xr6.xs = xr7.xs))))] := X.fr hs hd hl _ (by kernel_rfl)
   clear hs hd hl ho hR
   replace G := G.trans g
   replace hC := hC.gr g
   replace hO1 := hO1.thenGr g
   replace hx := hx.gr g
   replace hy := hy.gr g
   replace pI6 := pI6.gr g
   replace pI7 := pI7.gr g
   clear g
   refine X.thenN ?_
   cases h9 : decide (xr6.xs = xr7.xs) with
   | false =>
    try rw [h9] at F
    refine Y.condT (F.ev 26 (.bool true)) ?_
    refine Y.sg F [(4, .bool false)] (Y.pv F (X.assign rfl (X.kc (.bool false) rfl)) fun ac F=>Y.fin F) ?_;clear F ac;intro ac F
    refine Y.ret ?_
    refine X.blockR (X.thenR (X.thenR (X.blockR (X.thenR ?_))))
    exact Y.ret0 (v := .bool false) F (Y.r1 F) ⟨by rw [rows_no hxxr6 hxxr7 (of_decide_eq_false h9)], G⟩
   | true =>
    try rw [h9] at F
    refine Y.condF (F.ev 26 (.bool false)) ?_
    refine Y.skip ?_
    refine X.blockN (X.thenN ?_)
    refine Y.lg F [(0, .slice (some pd6) E.length c), (1, .slice (some pd7) D.length d), (5, Vi ((i : Int) + 1))] (by
     refine Y.pv F (X.move rfl (F.ev 5 (Vi i))) fun ac F=>?_
     refine Y.pv F (X.binop rfl (F.ev 15 (Vi i)) (X.kc (Vi 1) rfl) (X.addI Try.underlying3 rfl (by omega) (by omega))) fun ac F=>?_
     refine Y.pv F (X.assign rfl (F.ev 16 (Vi ((i : Int) + 1)))) fun ac F=>?_
     exact Y.fin F) ?_;clear F ac;intro ac F
    refine ⟨_, ?_, i + 1, rfl, hO1, by omega, fun j x y hj h1 h2 => if e : j = i then by subst e; rw [hxxr6] at h1; rw [hxxr7] at h2; injection h1 with h1; injection h2 with h2; subst h1 h2; exact of_decide_eq_true h9 else hsame j x y (by omega) h1 h2, F.sub _⟩
    omega
 | true =>
  try rw [h3] at F
  have h3p : ¬ (E.length : Int) = D.length := by simpa using h3
  refine Y.condT (F.ev 10 (.bool true)) ?_
  refine Y.sg F [(4, .bool false)] (Y.pv F (X.assign rfl (X.kc (.bool false) rfl)) fun ac F=>Y.fin F) ?_;clear F ac;intro ac F
  refine Y.ret ?_
  refine X.thenR ?_
  exact Y.ret0 (v := .bool false) F (Y.r1 F) ⟨by rw [show decide (E.map BegE.xs = D.map BegE.xs) = false from decide_eq_false fun e => by have := congrArg List.length e; simp at this; omega], G⟩
end
section
open Go.RowKit

/-- a problem in memory of the call's own -/
structure PbOwn (w : World) (B : Nat) (p : Pb) (ta ha ba la : Option Addr) (tc hc bc lc : Nat) : Prop where
  t : OwnR w B 74 4 (.slice ta p.nt tc) p.nt (tbL (tvV p) p.nt 4)
  h : OwnR w B 53 6 (.slice ha p.nh hc) p.nh (tbL (hvV p) p.nh 6)
  b : OwnR w B 65 3 (.slice ba p.nb bc) p.nb (tbL (bvV p) p.nb 3)
  l : OwnR w B 84 3 (.slice la p.nl lc) p.nl (tbL (lvV p) p.nl 3)
  s1 : ∀ i, i < p.nt → (p.tn i).size ≤ 9223372036854775807
  s2 : ∀ i, i < p.nh → (p.hn i).size ≤ 9223372036854775807
def SmlP (p : Pb) : Prop := p.nt ≤ 20 ∧ p.nh ≤ 20 ∧ p.nb ≤ 40 ∧ p.nl ≤ 40
theorem PbOwn.at {w : World} {B : Nat} {p : Pb} {ta ha ba la : Option Addr} {tc hc bc lc : Nat} (h : PbOwn w B p ta ha ba la tc hc bc lc) (hz : SmlP p) : PbAt w p ta ha ba la tc hc bc lc := by
  obtain ⟨h1, h2, h3, h4⟩ := hz
  exact ⟨h.t.tb (by omega), h.h.tb (by omega), h.b.tb (by omega), h.l.tb (by omega), h.s1, h.s2⟩
theorem PbOwn.gr {w w' : World} {B : Nat} {p : Pb} {ta ha ba la : Option Addr} {tc hc bc lc : Nat} (h : PbOwn w B p ta ha ba la tc hc bc lc) (g : Gr w w') : PbOwn w' B p ta ha ba la tc hc bc lc := ⟨h.t.gr g, h.h.gr g, h.b.gr g, h.l.gr g, h.s1, h.s2⟩
theorem OwnR.after {w w' : World} {b B e k n c : Nat} {a : Option Addr} {xs : List Value} (h : OwnR w B e k (.slice a n c) n xs) (g : Only (fun x => x = b) w w') (hb : b < B) : OwnR w' B e k (.slice a n c) n xs :=
  h.only g (fun x hx e => by have h1 := (h.ge hx).1; have h2 : x = b := e; omega)
set_option maxRecDepth 100000 in
set_option maxHeartbeats 2000000 in
theorem copy_any (p : Pb) (ta ha ba la : Option Addr) (tc hc bc lc : Nat) (w : World) (hP : PbAt w p ta ha ba la tc hc bc lc) (hz : SmlP p) :
  Calls Try.prog 17 #[.agg #[.slice ta p.nt tc, .slice ha p.nh hc, .slice ba p.nb bc, .slice la p.nl lc]] w fun e w' => ∃ ta ha ba la tc hc bc lc, e = .returned (.agg #[.slice ta p.nt tc, .slice ha p.nh hc, .slice ba p.nb bc, .slice la p.nl lc]) ∧ PbOwn w' w.heap.size p ta ha ba la tc hc bc lc ∧ Gr w w' := by
 have G := Gr.refl w
 have hpt := hP.t
 have hph := hP.h
 have hpb := hP.b
 have hpl := hP.l
 have hplen := hP.len
 obtain ⟨hn1, hn2, hn3, hn4⟩ := hplen
 have hcp1 := hpt.cap
 have hcp2 := hph.cap
 have hcp3 := hpb.cap
 have hcp4 := hpl.cap
 obtain ⟨hz1, hz2, hz3, hz4⟩ := hz
 refine Y.calls 20 Try.func17 rfl rfl ?_
 intro ac F0
 have F : Fr ac 20 [(0, .agg #[.slice ta p.nt tc, .slice ha p.nh hc, .slice ba p.nb bc, .slice la p.nl lc])] := F0.sub _
 clear F0
 refine Y.sl ?_
 have hgs3 : w.heap.size ≤ w.heap.size := G.size
 refine Y.pv F (X.box rfl (F.ev 0 (.agg #[.slice ta p.nt tc, .slice ha p.nh hc, .slice ba p.nb bc, .slice la p.nl lc])) X.bx) ?_;clear F ac;intro ac F
 have hgs5 : w.heap.size ≤ w.heap.size := G.size
 have g := Gr.alloc w (.cells #[.slice ta p.nt tc, .slice ha p.nh hc, .slice ba p.nb bc, .slice la p.nl lc] 27)
 have hb := heap_alloc_new w (.cells #[.slice ta p.nt tc, .slice ha p.nh hc, .slice ba p.nb bc, .slice la p.nl lc] 27)
 have hbl : w.heap.size < (w.alloc (.cells #[.slice ta p.nt tc, .slice ha p.nh hc, .slice ba p.nb bc, .slice la p.nl lc] 27)).heap.size := by simp
 have hC2 : RCells (w.alloc (.cells #[.slice ta p.nt tc, .slice ha p.nh hc, .slice ba p.nb bc, .slice la p.nl lc] 27)) [(Ad w.heap.size 0, .slice ta p.nt tc), (Ad w.heap.size 1, .slice ha p.nh hc), (Ad w.heap.size 2, .slice ba p.nb bc), (Ad w.heap.size 3, .slice la p.nl lc)] := (RCells.nil w).box (b := w.heap.size) #[.slice ta p.nt tc, .slice ha p.nh hc, .slice ba p.nb bc, .slice la p.nl lc] 27 rfl
 generalize w.alloc (.cells #[.slice ta p.nt tc, .slice ha p.nh hc, .slice ba p.nb bc, .slice la p.nl lc] 27) = w6 at *
 replace G := G.trans g
 have hC := hC2
 clear hC2
 replace hpt := hpt.gr g
 replace hph := hph.gr g
 replace hpb := hpb.gr g
 replace hpl := hpl.gr g
 have hsz4 := hbl
 clear g hb hbl
 refine Y.pv F (Y.al rfl (Try.new27 _)) ?_;clear F ac;intro ac F
 have g := Gr.alloc w6 (.cells #[.slice none 0 0, .slice none 0 0, .slice none 0 0, .slice none 0 0] 27)
 have hb := heap_alloc_new w6 (.cells #[.slice none 0 0, .slice none 0 0, .slice none 0 0, .slice none 0 0] 27)
 have hszw7 : w6.heap.size < (w6.alloc (.cells #[.slice none 0 0, .slice none 0 0, .slice none 0 0, .slice none 0 0] 27)).heap.size := by simp
 have hgsw7 : w.heap.size ≤ w6.heap.size := G.size
 generalize w6.alloc (.cells #[.slice none 0 0, .slice none 0 0, .slice none 0 0, .slice none 0 0] 27) = w7 at *
 replace G := G.trans g
 replace hC := hC.gr g
 replace hpt := hpt.gr g
 replace hph := hph.gr g
 replace hpb := hpb.gr g
 replace hpl := hpl.gr g
 have hVw7 : OwnP w7 w6.heap.size 4 (VL [.slice none 0 0, .slice none 0 0, .slice none 0 0, .slice none 0 0]) := ownP_bx (vs := [.slice none 0 0, .slice none 0 0, .slice none 0 0, .slice none 0 0]) hb
 clear g hb
 refine Y.nt F [(1, Vp w.heap.size), (2, Vp w6.heap.size)] ?_;clear F ac;intro ac F
 refine Y.seq ?_
 have hgL : w.heap.size ≤ w7.heap.size := G.size
 have hbB := hVw7.lt
 have hbw : w.heap.size ≤ w6.heap.size := by first | exact Nat.le_refl _ | omega
 obtain ⟨TT, hTT⟩ : ∃ T : (Nat → Value) → World → Prop, T = fun _ W => ∃ t0 c0 t1 c1 t2 c2 t3 c3, OwnP W w6.heap.size 4 (VL [.slice t0 p.nt c0, .slice t1 p.nh c1, .slice t2 p.nb c2, .slice t3 p.nl c3]) ∧ Only (fun x => x = w6.heap.size) w7 W ∧ OwnR W w7.heap.size 74 4 (.slice t0 p.nt c0) p.nt (tbL (tvV p) p.nt 4) ∧ OwnR W w7.heap.size 53 6 (.slice t1 p.nh c1) p.nh (tbL (hvV p) p.nh 6) ∧ OwnR W w7.heap.size 65 3 (.slice t2 p.nb c2) p.nb (tbL (bvV p) p.nb 3) ∧ OwnR W w7.heap.size 84 3 (.slice t3 p.nl c3) p.nl (tbL (lvV p) p.nl 3) := ⟨_, rfl⟩
 refine Y.regionS F [none, some (Vp w.heap.size), some (.slice ta p.nt tc), none, none, some (.pointer (some ⟨w.heap.size, 1, none⟩)), some (.slice ha p.nh hc), none, none, some (.pointer (some ⟨w.heap.size, 2, none⟩)), some (.slice ba p.nb bc), none, none, some (.pointer (some ⟨w.heap.size, 3, none⟩)), some (.slice la p.nl lc), none, none, none] [(0, Y.MP.row0 w7.heap.size 74 4), (3, Y.MP.row w7.heap.size 74 4 p.nt (tbL (tvV p) p.nt 4)), (4, Y.MP.row0 w7.heap.size 53 6), (7, Y.MP.row w7.heap.size 53 6 p.nh (tbL (hvV p) p.nh 6)), (8, Y.MP.row0 w7.heap.size 65 3), (11, Y.MP.row w7.heap.size 65 3 p.nb (tbL (bvV p) p.nb 3)), (12, Y.MP.row0 w7.heap.size 84 3), (15, Y.MP.row w7.heap.size 84 3 p.nl (tbL (lvV p) p.nl 3)), (16, Y.MP.pbv w7.heap.size p)] 17 TT rfl ⟨by kernel_rfl, of_decide_eq_true (by kernel_rfl), by kernel_rfl, by kernel_rfl, by kernel_rfl⟩ (of_decide_eq_true (by kernel_rfl)) ⟨?_, ?_, ?_, ?_, ?_, ?_, ?_, ?_, ?_, ?_, ?_, ?_, ?_, ?_, ?_, ?_, ?_, ?_, trivial⟩ ?_
 ·intro ac done u W Sx hT
  have hs := Sx.no 17 (by kernel_rfl)
  have hR := hT.1 hs
  have g : Gr w7 W := hR.1
  exact X.valN (X.w0 rfl) rfl (X.bs rfl X.bs0 (Try.bs22_0 _)) (Y.RT.of hs rfl (hR.new (q := Y.MP.row0 w7.heap.size 74 4) (Gr.alloc _ _) rfl ⟨_, rfl, ownR_new (heap_alloc_new _ _) g.size⟩))
 ·intro ac done u W Sx hT
  have hs := Sx.no 17 (by kernel_rfl)
  have hR := hT.1 hs
  have g : Gr w7 W := hR.1
  exact X.vl (X.field rfl (Sx.ev 1 (Vp w.heap.size)) (X.fld Try.underlying27 rfl (Try.siz22 _) rfl rfl)) (Y.RT.of hs rfl hR.st0)
 ·intro ac done u W Sx hT
  have hs := Sx.no 17 (by kernel_rfl)
  have hR := hT.1 hs
  have g : Gr w7 W := hR.1
  exact X.vl (X.load rfl (Sx.ev 4 (Vp w.heap.size)) (X.ld1 (Try.agg22 _) ((hC.gr g).at 0 rfl))) (Y.RT.of hs rfl hR.st0)
 ·intro ac done u W Sx hT
  have hs := Sx.no 17 (by kernel_rfl)
  have hR := hT.1 hs
  have g : Gr w7 W := hR.1
  obtain ⟨ra0, e0, hI0⟩ := hR.get (i := 0) (Y.MP.row0 w7.heap.size 74 4) rfl (Sx.an 0 (by kernel_rfl))
  obtain ⟨a9, c9, W2, hrun, hO2, g2⟩ := run_copyN (P := Try.prog) (ts := 22) Try.underlying22 Try.info74 rfl (by decide) hI0 (hpt.gr g).none0 tbL_len ((hpt.gr g).src (by decide)) (tv_one p _) (by omega) (by decide) g.size
  exact X.valN (X.w0 rfl) rfl (Y.apz rfl ((Sx.own 0 3 rfl).trans e0) (Sx.ev 5 (.slice ta p.nt tc)) hrun) (Y.RT.of hs rfl (hR.new (q := Y.MP.row w7.heap.size 74 4 p.nt (tbL (tvV p) p.nt 4)) g2 rfl ⟨_, _, rfl, hO2⟩))
 ·intro ac done u W Sx hT
  have hs := Sx.no 17 (by kernel_rfl)
  have hR := hT.1 hs
  have g : Gr w7 W := hR.1
  exact X.valN (X.w0 rfl) rfl (X.bs rfl X.bs0 (Try.bs23_0 _)) (Y.RT.of hs rfl (hR.new (q := Y.MP.row0 w7.heap.size 53 6) (Gr.alloc _ _) rfl ⟨_, rfl, ownR_new (heap_alloc_new _ _) g.size⟩))
 ·intro ac done u W Sx hT
  have hs := Sx.no 17 (by kernel_rfl)
  have hR := hT.1 hs
  have g : Gr w7 W := hR.1
  exact X.vl (X.field rfl (Sx.ev 1 (Vp w.heap.size)) (X.fld Try.underlying27 rfl (Try.siz23 _) rfl rfl)) (Y.RT.of hs rfl hR.st0)
 ·intro ac done u W Sx hT
  have hs := Sx.no 17 (by kernel_rfl)
  have hR := hT.1 hs
  have g : Gr w7 W := hR.1
  exact X.vl (X.load rfl (Sx.ev 8 (.pointer (some ⟨w.heap.size, 1, none⟩))) (X.ld1 (Try.agg23 _) ((hC.gr g).at 1 rfl))) (Y.RT.of hs rfl hR.st0)
 ·intro ac done u W Sx hT
  have hs := Sx.no 17 (by kernel_rfl)
  have hR := hT.1 hs
  have g : Gr w7 W := hR.1
  obtain ⟨ra4, e4, hI4⟩ := hR.get (i := 4) (Y.MP.row0 w7.heap.size 53 6) rfl (Sx.an 4 (by kernel_rfl))
  obtain ⟨a9, c9, W2, hrun, hO2, g2⟩ := run_copyN (P := Try.prog) (ts := 23) Try.underlying23 Try.info53 rfl (by decide) hI4 (hph.gr g).none0 tbL_len ((hph.gr g).src (by decide)) (hv_one p _) (by omega) (by decide) g.size
  exact X.valN (X.w0 rfl) rfl (Y.apz rfl ((Sx.own 4 7 rfl).trans e4) (Sx.ev 9 (.slice ha p.nh hc)) hrun) (Y.RT.of hs rfl (hR.new (q := Y.MP.row w7.heap.size 53 6 p.nh (tbL (hvV p) p.nh 6)) g2 rfl ⟨_, _, rfl, hO2⟩))
 ·intro ac done u W Sx hT
  have hs := Sx.no 17 (by kernel_rfl)
  have hR := hT.1 hs
  have g : Gr w7 W := hR.1
  exact X.valN (X.w0 rfl) rfl (X.bs rfl X.bs0 (Try.bs24_0 _)) (Y.RT.of hs rfl (hR.new (q := Y.MP.row0 w7.heap.size 65 3) (Gr.alloc _ _) rfl ⟨_, rfl, ownR_new (heap_alloc_new _ _) g.size⟩))
 ·intro ac done u W Sx hT
  have hs := Sx.no 17 (by kernel_rfl)
  have hR := hT.1 hs
  have g : Gr w7 W := hR.1
  exact X.vl (X.field rfl (Sx.ev 1 (Vp w.heap.size)) (X.fld Try.underlying27 rfl (Try.siz24 _) rfl rfl)) (Y.RT.of hs rfl hR.st0)
 ·intro ac done u W Sx hT
  have hs := Sx.no 17 (by kernel_rfl)
  have hR := hT.1 hs
  have g : Gr w7 W := hR.1
  exact X.vl (X.load rfl (Sx.ev 12 (.pointer (some ⟨w.heap.size, 2, none⟩))) (X.ld1 (Try.agg24 _) ((hC.gr g).at 2 rfl))) (Y.RT.of hs rfl hR.st0)
 ·intro ac done u W Sx hT
  have hs := Sx.no 17 (by kernel_rfl)
  have hR := hT.1 hs
  have g : Gr w7 W := hR.1
  obtain ⟨ra8, e8, hI8⟩ := hR.get (i := 8) (Y.MP.row0 w7.heap.size 65 3) rfl (Sx.an 8 (by kernel_rfl))
  obtain ⟨a9, c9, W2, hrun, hO2, g2⟩ := run_copyN (P := Try.prog) (ts := 24) Try.underlying24 Try.info65 rfl (by decide) hI8 (hpb.gr g).none0 tbL_len ((hpb.gr g).src (by decide)) (bv_one p _) (by omega) (by decide) g.size
  exact X.valN (X.w0 rfl) rfl (Y.apz rfl ((Sx.own 8 11 rfl).trans e8) (Sx.ev 13 (.slice ba p.nb bc)) hrun) (Y.RT.of hs rfl (hR.new (q := Y.MP.row w7.heap.size 65 3 p.nb (tbL (bvV p) p.nb 3)) g2 rfl ⟨_, _, rfl, hO2⟩))
 ·intro ac done u W Sx hT
  have hs := Sx.no 17 (by kernel_rfl)
  have hR := hT.1 hs
  have g : Gr w7 W := hR.1
  exact X.valN (X.w0 rfl) rfl (X.bs rfl X.bs0 (Try.bs25_0 _)) (Y.RT.of hs rfl (hR.new (q := Y.MP.row0 w7.heap.size 84 3) (Gr.alloc _ _) rfl ⟨_, rfl, ownR_new (heap_alloc_new _ _) g.size⟩))
 ·intro ac done u W Sx hT
  have hs := Sx.no 17 (by kernel_rfl)
  have hR := hT.1 hs
  have g : Gr w7 W := hR.1
  exact X.vl (X.field rfl (Sx.ev 1 (Vp w.heap.size)) (X.fld Try.underlying27 rfl (Try.siz25 _) rfl rfl)) (Y.RT.of hs rfl hR.st0)
 ·intro ac done u W Sx hT
  have hs := Sx.no 17 (by kernel_rfl)
  have hR := hT.1 hs
  have g : Gr w7 W := hR.1
  exact X.vl (X.load rfl (Sx.ev 16 (.pointer (some ⟨w.heap.size, 3, none⟩))) (X.ld1 (Try.agg25 _) ((hC.gr g).at 3 rfl))) (Y.RT.of hs rfl hR.st0)
 ·intro ac done u W Sx hT
  have hs := Sx.no 17 (by kernel_rfl)
  have hR := hT.1 hs
  have g : Gr w7 W := hR.1
  obtain ⟨ra12, e12, hI12⟩ := hR.get (i := 12) (Y.MP.row0 w7.heap.size 84 3) rfl (Sx.an 12 (by kernel_rfl))
  obtain ⟨a9, c9, W2, hrun, hO2, g2⟩ := run_copyN (P := Try.prog) (ts := 25) Try.underlying25 Try.info84 rfl (by decide) hI12 (hpl.gr g).none0 tbL_len ((hpl.gr g).src (by decide)) (lv_one p _) (by omega) (by decide) g.size
  exact X.valN (X.w0 rfl) rfl (Y.apz rfl ((Sx.own 12 15 rfl).trans e12) (Sx.ev 17 (.slice la p.nl lc)) hrun) (Y.RT.of hs rfl (hR.new (q := Y.MP.row w7.heap.size 84 3 p.nl (tbL (lvV p) p.nl 3)) g2 rfl ⟨_, _, rfl, hO2⟩))
 ·intro ac done u W Sx hT
  have hs := Sx.no 17 (by kernel_rfl)
  have hR := hT.1 hs
  have g : Gr w7 W := hR.1
  obtain ⟨ra3, rc3, e3, hI3⟩ := hR.get (i := 3) (Y.MP.row w7.heap.size 74 4 p.nt (tbL (tvV p) p.nt 4)) rfl (Sx.an 3 (by kernel_rfl))
  obtain ⟨ra7, rc7, e7, hI7⟩ := hR.get (i := 7) (Y.MP.row w7.heap.size 53 6 p.nh (tbL (hvV p) p.nh 6)) rfl (Sx.an 7 (by kernel_rfl))
  obtain ⟨ra11, rc11, e11, hI11⟩ := hR.get (i := 11) (Y.MP.row w7.heap.size 65 3 p.nb (tbL (bvV p) p.nb 3)) rfl (Sx.an 11 (by kernel_rfl))
  obtain ⟨ra15, rc15, e15, hI15⟩ := hR.get (i := 15) (Y.MP.row w7.heap.size 84 3 p.nl (tbL (lvV p) p.nl 3)) rfl (Sx.an 15 (by kernel_rfl))
  exact X.valN (X.w0 rfl) rfl (Y.bd rfl (X.b4 ((Sx.own 3 6 rfl).trans e3) ((Sx.own 7 10 rfl).trans e7) ((Sx.own 11 14 rfl).trans e11) ((Sx.own 15 18 rfl).trans e15)) (Try.bd27f _ _ _ _ _ _ _ _ _ _ _ _ _)) (Y.RT.of hs rfl (hR.new (q := Y.MP.pbv w7.heap.size p) (Gr.refl _) rfl ⟨_, _, _, _, _, _, _, _, rfl, hI3, hI7, hI11, hI15⟩))
 ·intro ac done u W Sx hT
  have hR := hT.1 Sx.nd
  have g : Gr w7 W := hR.1
  obtain ⟨t0, c0, t1, c1, t2, c2, t3, c3, e16, hO0, hO1, hO2, hO3⟩ := hR.get (i := 16) (Y.MP.pbv w7.heap.size p) rfl (Sx.an 16 (by kernel_rfl))
  obtain ⟨W2, hrun, hV2, hon⟩ := ownP_store (P := Try.prog) (vs := [.slice t0 p.nt c0, .slice t1 p.nh c1, .slice t2 p.nb c2, .slice t3 p.nl c3]) (t := 27) (hVw7.gr g) rfl (fun W => Try.siz27 W) rfl
  exact X.unit (X.w0 rfl) rfl (X.store rfl (Sx.ev 2 (Vp w6.heap.size)) ((Sx.own 16 19 rfl).trans e16) hrun) (Y.RT.fin (by subst hTT; exact ⟨t0, c0, t1, c1, t2, c2, t3, c3, hV2, (g.only _).trans hon, hO0.after hon hbB, hO1.after hon hbB, hO2.after hon hbB, hO3.after hon hbB⟩))
 rintro ac u w8 hs hd hl_ ho hT
 rw [hTT] at hT
 obtain ⟨t0, c0, t1, c1, t2, c2, t3, c3, hV2, hon, hO0, hO1, hO2, hO3⟩ := hT
 clear hTT
 replace F : Fr ac 20 [(2, Vp w6.heap.size)] := X.fr hs hd hl_ _ (by kernel_rfl)
 clear hs hd hl_ ho
 replace G := Y.Only.up G hon (by omega)
 refine X.thenN ?_
 refine Y.ret ?_
 exact Y.ret0 (v := .agg #[.slice t0 p.nt c0, .slice t1 p.nh c1, .slice t2 p.nb c2, .slice t3 p.nl c3]) F (Y.rcl F rfl (by kernel_rfl) (ownP_load hV2 (Try.agg27 _) (Try.siz27 _) rfl)) ⟨t0, t1, t2, t3, c0, c1, c2, c3, rfl, ⟨hO0.lower hgL, hO1.lower hgL, hO2.lower hgL, hO3.lower hgL, hP.s1, hP.s2⟩, G⟩
end
section
open Go.RowKit

theorem large_far {p : Pb} (h : largeB p = false) : farB p = false := by
  cases e : farB p with
  | false => rfl
  | true => unfold largeB at h; rw [e] at h; cases h
theorem large_sz {p : Pb} (h : largeB p = false) : SmlP p := far_sz (large_far h)
theorem large_pl {p : Pb} (h : largeB p = false) : chkE p = 0 → p.nt ≤ 5 ∧ p.nh ≤ 4 := fun hc => by
  simp [largeB, hc] at h
  omega
end
section
open Go.RowKit

set_option maxRecDepth 100000 in
set_option maxHeartbeats 2000000 in
theorem lists_any (p : Pb) (ta ha ba la : Option Addr) (tc hc bc lc : Nat) (most : Int) (w : World) (hP : PbAt w p ta ha ba la tc hc bc lc) :
  Calls Try.prog 5 #[.agg #[.slice ta p.nt tc, .slice ha p.nh hc, .slice ba p.nb bc, .slice la p.nl lc], Vi most] w fun e w' => e = .returned (.bool true) ∧ Gr w w' := by
 have G := Gr.refl w
 have hPP := hP
 refine Y.calls 61 Try.func5 rfl rfl ?_
 intro ac F0
 have F : Fr ac 61 [(0, .agg #[.slice ta p.nt tc, .slice ha p.nh hc, .slice ba p.nb bc, .slice la p.nl lc]), (1, Vi most)] := F0.sub _
 clear F0
 refine Y.sl ?_
 have hgs3 : w.heap.size ≤ w.heap.size := G.size
 refine Y.pv F (X.box rfl (F.ev 0 (.agg #[.slice ta p.nt tc, .slice ha p.nh hc, .slice ba p.nb bc, .slice la p.nl lc])) X.bx) ?_;clear F ac;intro ac F
 have hgs5 : w.heap.size ≤ w.heap.size := G.size
 have g := Gr.alloc w (.cells #[.slice ta p.nt tc, .slice ha p.nh hc, .slice ba p.nb bc, .slice la p.nl lc] 27)
 have hb := heap_alloc_new w (.cells #[.slice ta p.nt tc, .slice ha p.nh hc, .slice ba p.nb bc, .slice la p.nl lc] 27)
 have hbl : w.heap.size < (w.alloc (.cells #[.slice ta p.nt tc, .slice ha p.nh hc, .slice ba p.nb bc, .slice la p.nl lc] 27)).heap.size := by simp
 have hC2 : RCells (w.alloc (.cells #[.slice ta p.nt tc, .slice ha p.nh hc, .slice ba p.nb bc, .slice la p.nl lc] 27)) [(Ad w.heap.size 0, .slice ta p.nt tc), (Ad w.heap.size 1, .slice ha p.nh hc), (Ad w.heap.size 2, .slice ba p.nb bc), (Ad w.heap.size 3, .slice la p.nl lc)] := (RCells.nil w).box (b := w.heap.size) #[.slice ta p.nt tc, .slice ha p.nh hc, .slice ba p.nb bc, .slice la p.nl lc] 27 rfl
 generalize w.alloc (.cells #[.slice ta p.nt tc, .slice ha p.nh hc, .slice ba p.nb bc, .slice la p.nl lc] 27) = w6 at *
 replace G := G.trans g
 have hC := hC2
 clear hC2
 replace hPP := hPP.gr g
 have hsz4 := hbl
 clear g hb hbl
 refine Y.pv F (X.assign rfl (X.kc (.bool false) rfl)) ?_;clear F ac;intro ac F
 refine Y.nt F [(1, Vi most), (2, Vp w.heap.size)] ?_;clear F ac;intro ac F
 refine Y.seq ?_
 refine Y.sl ?_
 refine Y.pv F (X.load rfl (F.ev 2 (Vp w.heap.size)) (X.ldN (Try.agg27 _) (Try.siz27 _) (Y.atz (⟨w.heap.size, 0, none⟩) (Y.AtFrom.cons (hC.at 0 rfl) (Y.AtFrom.cons (hC.at 1 rfl) (Y.AtFrom.cons (hC.at 2 rfl) (Y.AtFrom.cons (hC.at 3 rfl) (Y.AtFrom.nil _ _ _)))))))) ?_;clear F ac;intro ac F
 refine Y.pc F 21 (X.a1 (F.ev 13 (.agg #[.slice ta p.nt tc, .slice ha p.nh hc, .slice ba p.nb bc, .slice la p.nl lc]))) Try.func21 (large_any p ta ha ba la tc hc bc lc w6 hPP) ?_
 clear F ac
 rintro e w7 ⟨rfl, g⟩
 refine ⟨_, rfl, ?_⟩
 intro ac F
 replace G := G.trans g
 replace hC := hC.gr g
 replace hPP := hPP.gr g
 clear g
 refine Y.nt F [(1, Vi most), (2, Vp w.heap.size), (14, .bool (largeB p))] ?_;clear F ac;intro ac F
 cases h8 : largeB p with
 | false =>
  try rw [h8] at F
  have hz : SmlP p := large_sz h8
  have hlg := large_pl h8
  refine Y.condF (F.ev 14 (.bool false)) ?_
  refine Y.skip ?_
  refine X.thenN ?_
  refine Y.sl ?_
  refine Y.pv F (X.load rfl (F.ev 2 (Vp w.heap.size)) (X.ldN (Try.agg27 _) (Try.siz27 _) (Y.atz (⟨w.heap.size, 0, none⟩) (Y.AtFrom.cons (hC.at 0 rfl) (Y.AtFrom.cons (hC.at 1 rfl) (Y.AtFrom.cons (hC.at 2 rfl) (Y.AtFrom.cons (hC.at 3 rfl) (Y.AtFrom.nil _ _ _)))))))) ?_;clear F ac;intro ac F
  refine Y.pc F 17 (X.a1 (F.ev 17 (.agg #[.slice ta p.nt tc, .slice ha p.nh hc, .slice ba p.nb bc, .slice la p.nl lc]))) Try.func17 (copy_any p ta ha ba la tc hc bc lc w7 hPP hz) ?_
  clear F ac
  rintro e w10 ⟨ta9, ha9, ba9, la9, tc9, hc9, bc9, lc9, rfl, hO9, g⟩
  have hQ9 := hO9.at hz
  refine ⟨_, rfl, ?_⟩
  intro ac F
  replace G := G.trans g
  replace hC := hC.gr g
  replace hPP := hPP.gr g
  clear g
  refine Y.pv F (X.move rfl (F.ev 1 (Vi most))) ?_;clear F ac;intro ac F
  refine Y.pc F 25 (X.a2 (F.ev 18 (.agg #[.slice ta9 p.nt tc9, .slice ha9 p.nh hc9, .slice ba9 p.nb bc9, .slice la9 p.nl lc9])) (F.ev 19 (Vi most))) Try.func25 (list_any p ta9 ha9 ba9 la9 tc9 hc9 bc9 lc9 most w10 hQ9) ?_
  clear F ac
  rintro e w12 ⟨ra11, rc11, E11, rfl, hr11, hm11, hl11, g⟩
  refine ⟨_, rfl, ?_⟩
  intro ac F
  replace G := G.trans g
  replace hC := hC.gr g
  replace hPP := hPP.gr g
  replace hQ9 := hQ9.gr g
  replace hO9 := hO9.gr g
  clear g
  have hz911 := hl11
  refine Y.pv F (X.move rfl (F.ev 20 (.tuple #[.slice ra11 E11.length rc11, Vi (listE p most)]))) ?_;clear F ac;intro ac F
  refine Y.pv F (X.extract rfl (F.ev 16 (.tuple #[.slice ra11 E11.length rc11, Vi (listE p most)])) rfl) ?_;clear F ac;intro ac F
  refine Y.pv F (X.extract rfl (F.ev 16 (.tuple #[.slice ra11 E11.length rc11, Vi (listE p most)])) rfl) ?_;clear F ac;intro ac F
  refine Y.pv F (X.assign rfl (F.ev 21 (.slice ra11 E11.length rc11))) ?_;clear F ac;intro ac F
  refine Y.pv F (X.assign rfl (F.ev 22 (Vi (listE p most)))) ?_;clear F ac;intro ac F
  refine Y.nt F [(1, Vi most), (2, Vp w.heap.size), (5, .slice ra11 E11.length rc11), (6, Vi (listE p most))] ?_;clear F ac;intro ac F
  refine Y.sl ?_
  refine Y.pv F (X.load rfl (F.ev 2 (Vp w.heap.size)) (X.ldN (Try.agg27 _) (Try.siz27 _) (Y.atz (⟨w.heap.size, 0, none⟩) (Y.AtFrom.cons (hC.at 0 rfl) (Y.AtFrom.cons (hC.at 1 rfl) (Y.AtFrom.cons (hC.at 2 rfl) (Y.AtFrom.cons (hC.at 3 rfl) (Y.AtFrom.nil _ _ _)))))))) ?_;clear F ac;intro ac F
  refine Y.pv F (X.move rfl (F.ev 1 (Vi most))) ?_;clear F ac;intro ac F
  refine Y.pc F 26 (X.a2 (F.ev 24 (.agg #[.slice ta p.nt tc, .slice ha p.nh hc, .slice ba p.nb bc, .slice la p.nl lc])) (F.ev 25 (Vi most))) Try.func26 (listR_any p ta ha ba la tc hc bc lc most hlg w12 hPP) ?_
  clear F ac
  rintro e w14 ⟨ra13, rc13, E13, rfl, hr13, hm13, hl13, g⟩
  refine ⟨_, rfl, ?_⟩
  intro ac F
  replace G := G.trans g
  replace hC := hC.gr g
  replace hPP := hPP.gr g
  replace hQ9 := hQ9.gr g
  replace hO9 := hO9.gr g
  replace hr11 := hr11.gr g
  clear g
  have hz913 := hl13
  refine Y.pv F (X.move rfl (F.ev 26 (.tuple #[.slice ra13 E13.length rc13, Vi (listE p most)]))) ?_;clear F ac;intro ac F
  refine Y.pv F (X.extract rfl (F.ev 23 (.tuple #[.slice ra13 E13.length rc13, Vi (listE p most)])) rfl) ?_;clear F ac;intro ac F
  refine Y.pv F (X.extract rfl (F.ev 23 (.tuple #[.slice ra13 E13.length rc13, Vi (listE p most)])) rfl) ?_;clear F ac;intro ac F
  refine Y.pv F (X.assign rfl (F.ev 27 (.slice ra13 E13.length rc13))) ?_;clear F ac;intro ac F
  refine Y.pv F (X.assign rfl (F.ev 28 (Vi (listE p most)))) ?_;clear F ac;intro ac F
  refine Y.nt F [(2, Vp w.heap.size), (5, .slice ra11 E11.length rc11), (6, Vi (listE p most)), (7, .slice ra13 E13.length rc13), (8, Vi (listE p most))] ?_;clear F ac;intro ac F
  refine Y.sl ?_
  refine Y.pv F (X.load rfl (F.ev 2 (Vp w.heap.size)) (X.ldN (Try.agg27 _) (Try.siz27 _) (Y.atz (⟨w.heap.size, 0, none⟩) (Y.AtFrom.cons (hC.at 0 rfl) (Y.AtFrom.cons (hC.at 1 rfl) (Y.AtFrom.cons (hC.at 2 rfl) (Y.AtFrom.cons (hC.at 3 rfl) (Y.AtFrom.nil _ _ _)))))))) ?_;clear F ac;intro ac F
  refine Y.pc F 17 (X.a1 (F.ev 30 (.agg #[.slice ta p.nt tc, .slice ha p.nh hc, .slice ba p.nb bc, .slice la p.nl lc]))) Try.func17 (copy_any p ta ha ba la tc hc bc lc w14 hPP hz) ?_
  clear F ac
  rintro e w16 ⟨ta15, ha15, ba15, la15, tc15, hc15, bc15, lc15, rfl, hO15, g⟩
  have hQ15 := hO15.at hz
  refine ⟨_, rfl, ?_⟩
  intro ac F
  replace G := G.trans g
  replace hC := hC.gr g
  replace hPP := hPP.gr g
  replace hQ9 := hQ9.gr g
  replace hO9 := hO9.gr g
  replace hr11 := hr11.gr g
  replace hr13 := hr13.gr g
  clear g
  refine Y.pc F 27 (X.a1 (F.ev 31 (.agg #[.slice ta15 p.nt tc15, .slice ha15 p.nh hc15, .slice ba15 p.nb bc15, .slice la15 p.nl lc15]))) Try.func27 (count_any p ta15 ha15 ba15 la15 tc15 hc15 bc15 lc15 w16 hQ15) ?_
  clear F ac
  rintro e w17 ⟨rfl, g⟩
  refine ⟨_, rfl, ?_⟩
  intro ac F
  replace G := G.trans g
  replace hC := hC.gr g
  replace hPP := hPP.gr g
  replace hQ9 := hQ9.gr g
  replace hO9 := hO9.gr g
  replace hr11 := hr11.gr g
  replace hr13 := hr13.gr g
  replace hQ15 := hQ15.gr g
  replace hO15 := hO15.gr g
  clear g
  refine Y.pv F (X.move rfl (F.ev 32 (.tuple #[Vi (countV p), Vi (chkE p)]))) ?_;clear F ac;intro ac F
  refine Y.pv F (X.extract rfl (F.ev 29 (.tuple #[Vi (countV p), Vi (chkE p)])) rfl) ?_;clear F ac;intro ac F
  refine Y.pv F (X.extract rfl (F.ev 29 (.tuple #[Vi (countV p), Vi (chkE p)])) rfl) ?_;clear F ac;intro ac F
  refine Y.pv F (X.assign rfl (F.ev 33 (Vi (countV p)))) ?_;clear F ac;intro ac F
  refine Y.pv F (X.assign rfl (F.ev 34 (Vi (chkE p)))) ?_;clear F ac;intro ac F
  refine Y.nt F [(2, Vp w.heap.size), (5, .slice ra11 E11.length rc11), (6, Vi (listE p most)), (7, .slice ra13 E13.length rc13), (8, Vi (listE p most)), (9, Vi (countV p)), (10, Vi (chkE p))] ?_;clear F ac;intro ac F
  refine Y.sl ?_
  refine Y.pv F (X.load rfl (F.ev 2 (Vp w.heap.size)) (X.ldN (Try.agg27 _) (Try.siz27 _) (Y.atz (⟨w.heap.size, 0, none⟩) (Y.AtFrom.cons (hC.at 0 rfl) (Y.AtFrom.cons (hC.at 1 rfl) (Y.AtFrom.cons (hC.at 2 rfl) (Y.AtFrom.cons (hC.at 3 rfl) (Y.AtFrom.nil _ _ _)))))))) ?_;clear F ac;intro ac F
  refine Y.pc F 28 (X.a1 (F.ev 36 (.agg #[.slice ta p.nt tc, .slice ha p.nh hc, .slice ba p.nb bc, .slice la p.nl lc]))) Try.func28 (countR_any p ta ha ba la tc hc bc lc hlg w17 hPP) ?_
  clear F ac
  rintro e w18 ⟨rfl, g⟩
  refine ⟨_, rfl, ?_⟩
  intro ac F
  replace G := G.trans g
  replace hC := hC.gr g
  replace hPP := hPP.gr g
  replace hQ9 := hQ9.gr g
  replace hO9 := hO9.gr g
  replace hr11 := hr11.gr g
  replace hr13 := hr13.gr g
  replace hQ15 := hQ15.gr g
  replace hO15 := hO15.gr g
  clear g
  refine Y.pv F (X.move rfl (F.ev 37 (.tuple #[Vi (countV p), Vi (chkE p)]))) ?_;clear F ac;intro ac F
  refine Y.pv F (X.extract rfl (F.ev 35 (.tuple #[Vi (countV p), Vi (chkE p)])) rfl) ?_;clear F ac;intro ac F
  refine Y.pv F (X.extract rfl (F.ev 35 (.tuple #[Vi (countV p), Vi (chkE p)])) rfl) ?_;clear F ac;intro ac F
  refine Y.pv F (X.assign rfl (F.ev 38 (Vi (countV p)))) ?_;clear F ac;intro ac F
  refine Y.pv F (X.assign rfl (F.ev 39 (Vi (chkE p)))) ?_;clear F ac;intro ac F
  refine Y.nt F [(5, .slice ra11 E11.length rc11), (6, Vi (listE p most)), (7, .slice ra13 E13.length rc13), (8, Vi (listE p most)), (9, Vi (countV p)), (10, Vi (chkE p)), (11, Vi (countV p)), (12, Vi (chkE p))] ?_;clear F ac;intro ac F
  refine Y.sl ?_
  refine Y.pv F (X.move rfl (F.ev 5 (.slice ra11 E11.length rc11))) ?_;clear F ac;intro ac F
  refine Y.pv F (X.move rfl (F.ev 7 (.slice ra13 E13.length rc13))) ?_;clear F ac;intro ac F
  refine Y.pc F 29 (X.a2 (F.ev 40 (.slice ra11 E11.length rc11)) (F.ev 41 (.slice ra13 E13.length rc13))) Try.func29 (by have hq := srows_any ra11 ra13 rc11 rc13 E11 E13 w18 hr11 hr13 (by omega) (by omega); rw [hm11, hm13, decide_eq_true rfl] at hq; exact hq) ?_
  clear F ac
  rintro e w19 ⟨rfl, g⟩
  refine ⟨_, rfl, ?_⟩
  intro ac F
  replace G := G.trans g
  replace hC := hC.gr g
  replace hPP := hPP.gr g
  replace hQ9 := hQ9.gr g
  replace hO9 := hO9.gr g
  replace hr11 := hr11.gr g
  replace hr13 := hr13.gr g
  replace hQ15 := hQ15.gr g
  replace hO15 := hO15.gr g
  clear g
  refine Y.pv F (X.move rfl (F.ev 42 (.bool true))) ?_;clear F ac;intro ac F
  refine Y.pg F 3 43 true (X.move rfl (F.ev 6 (Vi (listE p most)))) ?_;clear F ac;intro ac F
  refine Y.pg F 3 43 true (X.move rfl (F.ev 8 (Vi (listE p most)))) ?_;clear F ac;intro ac F
  refine Y.pg F 3 43 true (X.binop rfl (F.ev 44 (Vi (listE p most))) (F.ev 45 (Vi (listE p most))) (X.eqlI Try.underlying31 (show ((listE p most : Int) == (listE p most)) = true by simp))) ?_;clear F ac;intro ac F
  refine Y.pv F (X.pickT rfl (F.ev 43 (.bool true)) (F.ev 46 (.bool true))) ?_;clear F ac;intro ac F
  refine Y.pv F (X.move rfl (F.ev 47 (.bool true))) ?_;clear F ac;intro ac F
  refine Y.pg F 8 48 true (X.move rfl (F.ev 9 (Vi (countV p)))) ?_;clear F ac;intro ac F
  refine Y.pg F 8 48 true (X.move rfl (F.ev 11 (Vi (countV p)))) ?_;clear F ac;intro ac F
  refine Y.pg F 8 48 true (X.binop rfl (F.ev 49 (Vi (countV p))) (F.ev 50 (Vi (countV p))) (X.eqlI Try.underlying3 (show ((countV p : Int) == (countV p)) = true by simp))) ?_;clear F ac;intro ac F
  refine Y.pv F (X.pickT rfl (F.ev 48 (.bool true)) (F.ev 51 (.bool true))) ?_;clear F ac;intro ac F
  refine Y.pv F (X.move rfl (F.ev 52 (.bool true))) ?_;clear F ac;intro ac F
  refine Y.pg F 13 53 true (X.move rfl (F.ev 10 (Vi (chkE p)))) ?_;clear F ac;intro ac F
  refine Y.pg F 13 53 true (X.move rfl (F.ev 12 (Vi (chkE p)))) ?_;clear F ac;intro ac F
  refine Y.pg F 13 53 true (X.binop rfl (F.ev 54 (Vi (chkE p))) (F.ev 55 (Vi (chkE p))) (X.eqlI Try.underlying31 (show ((chkE p : Int) == (chkE p)) = true by simp))) ?_;clear F ac;intro ac F
  refine Y.pv F (X.pickT rfl (F.ev 53 (.bool true)) (F.ev 56 (.bool true))) ?_;clear F ac;intro ac F
  refine Y.pv F (X.move rfl (F.ev 57 (.bool true))) ?_;clear F ac;intro ac F
  refine Y.pcall F (X.w1 rfl (F.yl (j := 18) (d := 58) (b := true) rfl (by kernel_rfl))) rfl (X.enter (F := 16) rfl (X.kc (.func (.func 16) #[] #[]) rfl) rfl (enters_of Try.func16 (by kernel_rfl) rfl _)) (works_any w19) ?_
  clear F ac
  rintro e w20 ⟨rfl, g⟩
  refine ⟨_, rfl, ?_⟩
  intro ac F
  replace G := G.trans g
  replace hC := hC.gr g
  replace hPP := hPP.gr g
  replace hQ9 := hQ9.gr g
  replace hO9 := hO9.gr g
  replace hr11 := hr11.gr g
  replace hr13 := hr13.gr g
  replace hQ15 := hQ15.gr g
  replace hO15 := hO15.gr g
  clear g
  refine Y.pv F (X.pickT rfl (F.ev 58 (.bool true)) (F.ev 59 (.bool true))) ?_;clear F ac;intro ac F
  refine Y.pv F (X.assign rfl (F.ev 60 (.bool true))) ?_;clear F ac;intro ac F
  refine Y.nt F [(4, .bool true)] ?_;clear F ac;intro ac F
  refine Y.ret ?_
  exact Y.ret0 (v := .bool true) F (Y.r1 F) ⟨rfl, G⟩
 | true =>
  try rw [h8] at F
  refine Y.condT (F.ev 14 (.bool true)) ?_
  refine Y.sl ?_
  refine Y.pcall F (X.w0 rfl) rfl (X.enter (F := 16) rfl (X.kc (.func (.func 16) #[] #[]) rfl) rfl (enters_of Try.func16 (by kernel_rfl) rfl _)) (works_any w7) ?_
  clear F ac
  rintro e w21 ⟨rfl, g⟩
  refine ⟨_, rfl, ?_⟩
  intro ac F
  replace G := G.trans g
  replace hC := hC.gr g
  replace hPP := hPP.gr g
  clear g
  refine Y.pv F (X.assign rfl (F.ev 15 (.bool true))) ?_;clear F ac;intro ac F
  refine Y.nt F [(4, .bool true)] ?_;clear F ac;intro ac F
  refine Y.ret ?_
  refine X.thenR ?_
  exact Y.ret0 (v := .bool true) F (Y.r1 F) ⟨rfl, G⟩
end
end Go.Proofs.Ytodedneanlekdaa
