/- Contract: the law about Conflict. -/
import Derived.Test.YtodedneanlekdaaBd14
import Derived.Test.YtodedneanlekdaaBd12
namespace Go.Proofs.Ytodedneanlekdaa
set_option linter.unusedSimpArgs false
set_option linter.unusedVariables false
open Go.RowKit

set_option maxRecDepth 100000 in
set_option maxHeartbeats 4000000 in
theorem conflicts_any (p : Pb) (ta ha ba la : Option Addr) (tc hc bc lc : Nat) (w : World) (hP : PbAt w p ta ha ba la tc hc bc lc) :
  Calls Try.prog 12 #[.agg #[.slice ta p.nt tc, .slice ha p.nh hc, .slice ba p.nb bc, .slice la p.nl lc]] w fun e w' => e = .returned (.bool true) ∧ Gr w w' := by
 have G := Gr.refl w
 have hPP := hP
 have hpb := hP.b
 have hcp3 := hpb.cap
 refine Y.calls 91 Try.func12 rfl rfl ?_
 intro ac F0
 have F : Fr ac 91 [(0, .agg #[.slice ta p.nt tc, .slice ha p.nh hc, .slice ba p.nb bc, .slice la p.nl lc])] := F0.sub _
 clear F0
 refine Y.sl ?_
 have hgs3 : w.heap.size ≤ w.heap.size := G.size
 refine Y.pv F (X.box rfl (F.ev 0 (.agg #[.slice ta p.nt tc, .slice ha p.nh hc, .slice ba p.nb bc, .slice la p.nl lc])) X.bx) ?_;clear F ac;intro ac F
 have hgs5 : w.heap.size ≤ w.heap.size := G.size
 obtain ⟨w6, hw_, g, hb, hbl, hC2⟩ := Y.bxd (RCells.nil w) #[.slice ta p.nt tc, .slice ha p.nh hc, .slice ba p.nb bc, .slice la p.nl lc] 27;rw [hw_];clear hw_
 replace G := G.trans g
 have hC := hC2
 clear hC2
 replace hPP := hPP.gr g
 replace hpb := hpb.gr g
 have hsz4 := hbl
 clear g hb hbl
 refine Y.pv F (X.assign rfl (X.kc (.bool false) rfl)) ?_;clear F ac;intro ac F
 refine Y.nt F [(1, Vp w.heap.size)] ?_;clear F ac;intro ac F
 refine Y.seq ?_
 refine Y.sl ?_
 refine Y.pv F (X.load rfl (F.ev 1 (Vp w.heap.size)) (X.ldN (Try.agg27 _) (Try.siz27 _) (Y.atz (⟨w.heap.size, 0, none⟩) (Y.AtFrom.cons (hC.at 0 rfl) (Y.AtFrom.cons (hC.at 1 rfl) (Y.AtFrom.cons (hC.at 2 rfl) (Y.AtFrom.cons (hC.at 3 rfl) (Y.AtFrom.nil _ _ _)))))))) ?_;clear F ac;intro ac F
 refine Y.pc F 21 (X.a1 (F.ev 13 (.agg #[.slice ta p.nt tc, .slice ha p.nh hc, .slice ba p.nb bc, .slice la p.nl lc]))) Try.func21 (large_any p ta ha ba la tc hc bc lc w6 hPP) ?_
 clear F ac
 rintro e w7 ⟨rfl, g⟩
 refine ⟨_, rfl, ?_⟩
 intro ac F
 replace G := G.trans g
 replace hC := hC.gr g
 replace hPP := hPP.gr g
 replace hpb := hpb.gr g
 clear g
 refine Y.nt F [(1, Vp w.heap.size), (14, .bool (largeB p))] ?_;clear F ac;intro ac F
 cases h8 : largeB p with
 | false =>
  try rw [h8] at F
  have hz : SmlP p := large_sz h8
  have hlg := large_pl h8
  refine Y.condF (F.ev 14 (.bool false)) ?_
  refine Y.skip ?_
  refine X.thenN ?_
  refine Y.sl ?_
  refine Y.pv F (X.load rfl (F.ev 1 (Vp w.heap.size)) (X.ldN (Try.agg27 _) (Try.siz27 _) (Y.atz (⟨w.heap.size, 0, none⟩) (Y.AtFrom.cons (hC.at 0 rfl) (Y.AtFrom.cons (hC.at 1 rfl) (Y.AtFrom.cons (hC.at 2 rfl) (Y.AtFrom.cons (hC.at 3 rfl) (Y.AtFrom.nil _ _ _)))))))) ?_;clear F ac;intro ac F
  refine Y.pc F 17 (X.a1 (F.ev 17 (.agg #[.slice ta p.nt tc, .slice ha p.nh hc, .slice ba p.nb bc, .slice la p.nl lc]))) Try.func17 (copy_any p ta ha ba la tc hc bc lc w7 hPP hz) ?_
  clear F ac
  rintro e w10 ⟨ta9, ha9, ba9, la9, tc9, hc9, bc9, lc9, rfl, hO9, g⟩
  have hQ9 := hO9.at hz
  refine ⟨_, rfl, ?_⟩
  intro ac F
  replace G := G.trans g
  replace hC := hC.gr g
  replace hPP := hPP.gr g
  replace hpb := hpb.gr g
  clear g
  refine Y.pc F 45 (X.a1 (F.ev 18 (.agg #[.slice ta9 p.nt tc9, .slice ha9 p.nh hc9, .slice ba9 p.nb bc9, .slice la9 p.nl lc9]))) Try.func45 (conflict_any p ta9 ha9 ba9 la9 tc9 hc9 bc9 lc9 w10 hQ9) ?_
  clear F ac
  rintro e w12 ⟨ra11, rc11, rfl, hI11, hIl11, g⟩
  refine ⟨_, rfl, ?_⟩
  intro ac F
  replace G := G.trans g
  replace hC := hC.gr g
  replace hPP := hPP.gr g
  replace hpb := hpb.gr g
  replace hQ9 := hQ9.gr g
  replace hO9 := hO9.gr g
  clear g
  have hIn := hI11
  have hGr9 := Gr.refl w12
  refine Y.pv4 F (X.move rfl (F.ev 19 (.tuple #[.slice ra11 ((intsN (confK p)).length) rc11, Vi (confE p)]))) (fun _ F=>X.extract rfl (F.ev 16 (.tuple #[.slice ra11 ((intsN (confK p)).length) rc11, Vi (confE p)])) rfl) (fun _ F=>X.extract rfl (F.ev 16 (.tuple #[.slice ra11 ((intsN (confK p)).length) rc11, Vi (confE p)])) rfl) (fun _ F=>X.assign rfl (F.ev 20 (.slice ra11 ((intsN (confK p)).length) rc11))) ?_;clear F ac;intro ac F
  refine Y.pv F (X.assign rfl (F.ev 21 (Vi (confE p)))) ?_;clear F ac;intro ac F
  refine Y.nt F [(1, Vp w.heap.size), (3, .slice ra11 ((intsN (confK p)).length) rc11), (4, Vi (confE p))] ?_;clear F ac;intro ac F
  refine Y.sl ?_
  refine Y.pv F (X.load rfl (F.ev 1 (Vp w.heap.size)) (X.ldN (Try.agg27 _) (Try.siz27 _) (Y.atz (⟨w.heap.size, 0, none⟩) (Y.AtFrom.cons (hC.at 0 rfl) (Y.AtFrom.cons (hC.at 1 rfl) (Y.AtFrom.cons (hC.at 2 rfl) (Y.AtFrom.cons (hC.at 3 rfl) (Y.AtFrom.nil _ _ _)))))))) ?_;clear F ac;intro ac F
  refine Y.pc F 46 (X.a1 (F.ev 23 (.agg #[.slice ta p.nt tc, .slice ha p.nh hc, .slice ba p.nb bc, .slice la p.nl lc]))) Try.func46 (conflictR_any p ta ha ba la tc hc bc lc hlg w12 hPP) ?_
  clear F ac
  rintro e w14 ⟨ra13, rc13, rfl, hI13, hIl13, g⟩
  refine ⟨_, rfl, ?_⟩
  intro ac F
  replace G := G.trans g
  replace hC := hC.gr g
  replace hGr9 := hGr9.trans g
  replace hPP := hPP.gr g
  replace hpb := hpb.gr g
  replace hQ9 := hQ9.gr g
  replace hO9 := hO9.gr g
  replace hI11 := hI11.gr g
  replace hIn := hIn.gr g
  clear g
  refine Y.pv4 F (X.move rfl (F.ev 24 (.tuple #[.slice ra13 ((intsN (confK p)).length) rc13, Vi (confE p)]))) (fun _ F=>X.extract rfl (F.ev 22 (.tuple #[.slice ra13 ((intsN (confK p)).length) rc13, Vi (confE p)])) rfl) (fun _ F=>X.extract rfl (F.ev 22 (.tuple #[.slice ra13 ((intsN (confK p)).length) rc13, Vi (confE p)])) rfl) (fun _ F=>X.assign rfl (F.ev 25 (.slice ra13 ((intsN (confK p)).length) rc13))) ?_;clear F ac;intro ac F
  refine Y.pv F (X.assign rfl (F.ev 26 (Vi (confE p)))) ?_;clear F ac;intro ac F
  refine Y.nt F [(1, Vp w.heap.size), (3, .slice ra11 ((intsN (confK p)).length) rc11), (4, Vi (confE p)), (5, .slice ra13 ((intsN (confK p)).length) rc13), (6, Vi (confE p))] ?_;clear F ac;intro ac F
  refine Y.seq ?_
  refine Y.sl ?_
  refine Y.pv2 F (X.move rfl (F.ev 3 (.slice ra11 ((intsN (confK p)).length) rc11))) (fun _ F=>X.move rfl (F.ev 5 (.slice ra13 ((intsN (confK p)).length) rc13))) ?_;clear F ac;intro ac F
  refine Y.pc F 24 (X.a2 (F.ev 27 (.slice ra11 ((intsN (confK p)).length) rc11)) (F.ev 28 (.slice ra13 ((intsN (confK p)).length) rc13))) Try.func24 (by have hq := same_any ra11 ra13 rc11 rc13 (intsN (confK p)) (intsN (confK p)) w14 hI11 hI13; rw [decide_eq_true rfl] at hq; exact hq) ?_
  clear F ac
  rintro e w15 ⟨rfl, g⟩
  refine ⟨_, rfl, ?_⟩
  intro ac F
  replace G := G.trans g
  replace hC := hC.gr g
  replace hGr9 := hGr9.trans g
  replace hPP := hPP.gr g
  replace hpb := hpb.gr g
  replace hI11 := hI11.gr g
  replace hIn := hIn.gr g
  replace hI13 := hI13.gr g
  clear g
  refine Y.pv2 F (X.notB rfl (F.ev 29 (.bool true)) rfl) (fun _ F=>X.move rfl (F.ev 30 (.bool false))) ?_;clear F ac;intro ac F
  refine Y.pg F 4 31 false (X.move rfl (F.ev 4 (Vi (confE p)))) ?_;clear F ac;intro ac F
  refine Y.pg F 4 31 false (X.move rfl (F.ev 6 (Vi (confE p)))) ?_;clear F ac;intro ac F
  refine Y.pg F 4 31 false (X.binop rfl (F.ev 32 (Vi (confE p))) (F.ev 33 (Vi (confE p))) (X.neqI Try.underlying31 (show ((confE p : Int) != (confE p)) = false by simp))) ?_;clear F ac;intro ac F
  refine Y.pv F (X.pickF rfl (F.ev 31 (.bool false)) (F.ev 34 (.bool false))) ?_;clear F ac;intro ac F
  refine Y.nt F [(1, Vp w.heap.size), (3, .slice ra11 ((intsN (confK p)).length) rc11), (4, Vi (confE p)), (35, .bool false)] ?_;clear F ac;intro ac F
  refine Y.condF (F.ev 35 (.bool false)) ?_
  refine Y.skip ?_
  refine X.thenN ?_
  refine Y.seq ?_
  refine Y.sg F [(1, Vp w.heap.size), (3, .slice ra11 ((intsN (confK p)).length) rc11), (37, .bool ((confE p : Int) != 0))] (Y.pv F (X.move rfl (F.ev 4 (Vi (confE p)))) fun ac F=>Y.pv F (X.binop rfl (F.ev 36 (Vi (confE p))) (X.kc (Vi 0) rfl) (X.neqI Try.underlying31 rfl)) fun ac F=>Y.fin F) ?_;clear F ac;intro ac F
  cases h16 : ((confE p : Int) != 0) with
  | false =>
   try rw [h16] at F
   have h16p : (confE p : Int) = 0 := by simpa using h16
   have hce : confE p = 0 := by omega
   have hKl : (intsN (confK p)).length = (confK p).length := intsN_len _
   have hKb := confK_len hce
   have hnb9 := hz.2.2.1
   refine Y.condF (F.ev 37 (.bool false)) ?_
   refine Y.skip ?_
   refine X.thenN ?_
   refine Y.seq ?_
   refine Y.sg F [(1, Vp w.heap.size), (3, .slice ra11 ((intsN (confK p)).length) rc11), (7, Vi (-1))] (Y.pv F (X.assign rfl (X.kc (Vi (-1)) rfl)) fun ac F=>Y.fin F) ?_;clear F ac;intro ac F
   refine Y.block ?_
   have hW1 : w.heap.size ≤ w15.heap.size := G.size
   have hgr9 : w12.heap.size ≤ w15.heap.size := hGr9.size
   have hIlt : ∀ ad, ra11 = some ad → ad.block < w15.heap.size := fun ad e => Nat.lt_of_lt_of_le (hIl11 ad e) hgr9
   refine Y.loop (fun me_ ac wr => ∃ (i : Nat), me_ = (intsN (confK p)).length + 1 - i ∧ Only (fun b => False) w15 wr ∧ i ≤ (intsN (confK p)).length + 1 ∧ Fr ac 91 [(1, Vp w.heap.size), (3, .slice ra11 ((intsN (confK p)).length) rc11), (7, Vi ((i : Int) - 1))]) _ ⟨0, rfl, Only.refl _ _, Nat.zero_le _, F.sub _⟩ ?_
   have hPPB1 := hPP
   have hpbB1 := hpb
   have hInB1 := hIn
   have GB1 := G
   have hCB1 := hC
   clear F ac
   intro me_ ac w17 hI
   obtain ⟨i, rfl, hO1, hi, F⟩ := hI
   replace G := GB1.trans (hO1.gr (fun _ _ h => h))
   replace hPP := (hP).gr G
   replace hpb := (hP.b).gr G
   replace hIn := hInB1.gr (hO1.gr (fun _ _ h => h))
   replace hC := (RCells.cons (hO1.cell (hCB1.at 0 rfl) (fun h => h)) (RCells.cons (hO1.cell (hCB1.at 1 rfl) (fun h => h)) (RCells.cons (hO1.cell (hCB1.at 2 rfl) (fun h => h)) (RCells.cons (hO1.cell (hCB1.at 3 rfl) (fun h => h)) (RCells.nil _)))))
   refine Y.seq ?_
   refine Y.sg F [(1, Vp w.heap.size), (3, .slice ra11 ((intsN (confK p)).length) rc11), (7, Vi ((i : Int) - 1)), (42, .bool (decide (((i : Int) - 1 : Int) < ((intsN (confK p)).length))))] (Y.pv F (X.move rfl (F.ev 7 (Vi ((i : Int) - 1)))) fun ac F=>Y.pv F (X.move rfl (F.ev 3 (.slice ra11 ((intsN (confK p)).length) rc11))) fun ac F=>Y.pv F (X.len1 Try.underlying34 rfl (F.ev 40 (.slice ra11 ((intsN (confK p)).length) rc11))) fun ac F=>Y.pv F (X.binop rfl (F.ev 39 (Vi ((i : Int) - 1))) (F.ev 41 (Vi ((intsN (confK p)).length))) (X.lssI Try.underlying3 rfl)) fun ac F=>Y.fin F) ?_;clear F ac;intro ac F
   cases h18 : decide (((i : Int) - 1 : Int) < ((intsN (confK p)).length)) with
   | false =>
    try rw [h18] at F
    have h18p : ¬ (((i : Int) - 1 : Int) < ((intsN (confK p)).length)) := of_decide_eq_false h18
    refine Y.condF (F.ev 42 (.bool false)) ?_
    refine Y.exit ?_
    refine X.thenX (X.thenX (X.blockX (X.thenN ?_)))
    refine Y.sl ?_
    refine Y.pcall F (X.w0 rfl) rfl (X.enter (F := 16) rfl (X.kc (.func (.func 16) #[] #[]) rfl) rfl (enters_of Try.func16 (by kernel_rfl) rfl _)) (works_any w17) ?_
    clear F ac
    rintro e w19 ⟨rfl, g⟩
    refine ⟨_, rfl, ?_⟩
    intro ac F
    replace G := G.trans g
    replace hC := hC.gr g
    replace hPP := hPP.gr g
    replace hpb := hpb.gr g
    replace hIn := hIn.gr g
    clear g
    refine Y.pv F (X.assign rfl (F.ev 90 (.bool true))) ?_;clear F ac;intro ac F
    refine Y.nt F [(2, .bool true)] ?_;clear F ac;intro ac F
    refine Y.ret ?_
    exact Y.ret0 (v := .bool true) F (Y.r1 F) ⟨rfl, G⟩
   | true =>
    try rw [h18] at F
    have h18p : (((i : Int) - 1 : Int) < ((intsN (confK p)).length)) := of_decide_eq_true h18
    refine Y.condT (F.ev 42 (.bool true)) ?_
    refine Y.skip ?_
    refine X.thenN ?_
    refine Y.seq ?_
    refine Y.block ?_
    refine Y.sl ?_
    refine Y.pv F (X.load rfl (F.ev 1 (Vp w.heap.size)) (X.ldN (Try.agg27 _) (Try.siz27 _) (Y.atz (⟨w.heap.size, 0, none⟩) (Y.AtFrom.cons (hC.at 0 rfl) (Y.AtFrom.cons (hC.at 1 rfl) (Y.AtFrom.cons (hC.at 2 rfl) (Y.AtFrom.cons (hC.at 3 rfl) (Y.AtFrom.nil _ _ _)))))))) ?_;clear F ac;intro ac F
    refine Y.pc F 17 (X.a1 (F.ev 45 (.agg #[.slice ta p.nt tc, .slice ha p.nh hc, .slice ba p.nb bc, .slice la p.nl lc]))) Try.func17 (copy_any p ta ha ba la tc hc bc lc w17 hPP hz) ?_
    clear F ac
    rintro e w21 ⟨ta20, ha20, ba20, la20, tc20, hc20, bc20, lc20, rfl, hO20, g⟩
    have hQ20 := hO20.at hz
    refine ⟨_, rfl, ?_⟩
    intro ac F
    replace G := G.trans g
    replace hC := hC.gr g
    replace hO1 := hO1.thenGr g
    replace hPP := hPP.gr g
    replace hpb := hpb.gr g
    replace hIn := hIn.gr g
    clear g
    refine Y.pv F (Y.al rfl (Try.new27 _)) ?_;clear F ac;intro ac F
    refine Y.punit F (X.w0 rfl) rfl (X.store rfl (F.ev 8 (Vp w21.heap.size)) (F.ev 46 (.agg #[.slice ta20 p.nt tc20, .slice ha20 p.nh hc20, .slice ba20 p.nb bc20, .slice la20 p.nl lc20])) (Y.stNew [.slice ta20 p.nt tc20, .slice ha20 p.nh hc20, .slice ba20 p.nb bc20, .slice la20 p.nl lc20] [.slice none 0 0, .slice none 0 0, .slice none 0 0, .slice none 0 0] (Try.siz27 _) rfl rfl)) ?_;clear F ac;intro ac F
    have hCq := CqR.of hO20
    have hW1q : w15.heap.size ≤ w21.heap.size := hO1.size
    have hbq22 : w.heap.size < w21.heap.size := lt_cell (hC.at 0 rfl)
    have g := Gr.alloc w21 (.cells #[.slice ta20 p.nt tc20, .slice ha20 p.nh hc20, .slice ba20 p.nb bc20, .slice la20 p.nl lc20] 27)
    have hb := heap_alloc_new w21 (.cells #[.slice ta20 p.nt tc20, .slice ha20 p.nh hc20, .slice ba20 p.nb bc20, .slice la20 p.nl lc20] 27)
    have hszw23 : w21.heap.size < (w21.alloc (.cells #[.slice ta20 p.nt tc20, .slice ha20 p.nh hc20, .slice ba20 p.nb bc20, .slice la20 p.nl lc20] 27)).heap.size := by simp
    have hgsw23 : w.heap.size ≤ w21.heap.size := G.size
    generalize w21.alloc (.cells #[.slice ta20 p.nt tc20, .slice ha20 p.nh hc20, .slice ba20 p.nb bc20, .slice la20 p.nl lc20] 27) = w23 at *
    replace G := G.trans g
    replace hC := hC.gr g
    replace hO1 := hO1.thenGr g
    replace hPP := hPP.gr g
    replace hpb := hpb.gr g
    replace hIn := hIn.gr g
    replace hCq := hCq.gr g
    have hVw23 : OwnP w23 w21.heap.size 4 (qsV ta20 ha20 ba20 la20 tc20 hc20 bc20 lc20 p.nt p.nh p.nb p.nl) := ownP_bx (vs := [.slice ta20 p.nt tc20, .slice ha20 p.nh hc20, .slice ba20 p.nb bc20, .slice la20 p.nl lc20]) hb
    clear g hb
    obtain ⟨q9, hq9⟩ : ∃ x, w21.heap.size = x := ⟨_, rfl⟩
    rw [hq9] at F hVw23 hCq hW1q
    have hqw : w.heap.size ≤ q9 := Nat.le_trans hW1 hW1q
    refine Y.nt F [(1, Vp w.heap.size), (3, .slice ra11 ((intsN (confK p)).length) rc11), (7, Vi ((i : Int) - 1)), (8, Vp q9)] ?_;clear F ac;intro ac F
    refine Y.sl ?_
    refine Y.pv F (X.field rfl (F.ev 8 (Vp q9)) (X.fld Try.underlying27 rfl (Try.siz24 _) rfl rfl)) ?_;clear F ac;intro ac F
    refine Y.punit F (X.w0 rfl) rfl (X.store rfl (F.ev 47 (.pointer (some ⟨q9, 2, none⟩))) (X.kc (.slice none 0 0) rfl) (hVw23.st1 (Try.siz24 _) rfl rfl (by omega))) ?_;clear F ac;intro ac F
    have hon := Y.set_only w23 q9 2 (.slice none 0 0)
    have hV2 := (hVw23.set (k := 2) (.slice none 0 0)).congr (val' := qsV ta20 ha20 none la20 tc20 hc20 0 lc20 p.nt p.nh 0 p.nl) qs_set
    generalize w23.setCell ⟨q9, 2, none⟩ (.slice none 0 0) = w24 at *
    replace hVw23 : OwnP w24 q9 4 (qsV ta20 ha20 none la20 tc20 hc20 0 lc20 p.nt p.nh 0 p.nl) := hV2
    clear hV2
    replace G := Y.Only.up G hon (by omega)
    replace hPP := (hP).gr G
    replace hpb := (hP.b).gr G
    replace hIn := hIn.onlyAt hon (fun ad e h => by have h1 := hIlt ad e; have h2 : ad.block = q9 := h; omega)
    replace hCq := hCq.only hon
    replace hO1 := hO1.step hon (.inr (by omega))
    replace hC := (hC.kc hon 0 rfl (hC.kc hon 1 rfl (hC.kc hon 2 rfl (hC.kc hon 3 rfl (RCells.nil _)))))
    clear hon
    refine Y.nt F [(1, Vp w.heap.size), (3, .slice ra11 ((intsN (confK p)).length) rc11), (7, Vi ((i : Int) - 1)), (8, Vp q9)] ?_;clear F ac;intro ac F
    refine Y.seq ?_
    refine Y.sg F [(1, Vp w.heap.size), (3, .slice ra11 ((intsN (confK p)).length) rc11), (7, Vi ((i : Int) - 1)), (8, Vp q9), (9, Vi 0)] (Y.pv F (X.assign rfl (X.kc (Vi 0) rfl)) fun ac F=>Y.fin F) ?_;clear F ac;intro ac F
    refine Y.block ?_
    have hW2 : w.heap.size ≤ w24.heap.size := G.size
    have hqW2 := hVw23.lt
    refine Y.loop (fun me_ ac wr => ∃ (k : Nat) (xa : Option Addr) (xc : Nat), me_ = (intsN (confK p)).length - k ∧ Only (fun b => b = q9) w24 wr ∧ OwnP wr q9 4 (qsV ta20 ha20 xa la20 tc20 hc20 xc lc20 p.nt p.nh (skp (confK p) ((i : Int) - 1) k).length p.nl) ∧ k ≤ (intsN (confK p)).length ∧ OwnR wr w24.heap.size 65 3 (.slice xa (skp (confK p) ((i : Int) - 1) k).length xc) (skp (confK p) ((i : Int) - 1) k).length (selV p (skp (confK p) ((i : Int) - 1) k)) ∧ Fr ac 91 [(1, Vp w.heap.size), (3, .slice ra11 ((intsN (confK p)).length) rc11), (7, Vi ((i : Int) - 1)), (8, Vp q9), (9, Vi k)]) _ ⟨0, none, 0, rfl, Only.refl _ _, hVw23, Nat.zero_le _, OwnR.nil _ _ _ _, F.sub _⟩ ?_
    have hPPB2 := hPP
    have hpbB2 := hpb
    have hInB2 := hIn
    have hCqB2 := hCq
    have hVw23B2 := hVw23
    have GB2 := G
    have hCB2 := hC
    clear F ac hVw23
    intro me_ ac w25 hI
    obtain ⟨k, xa, xc, rfl, hO2, hVw23, hk, hRo, F⟩ := hI
    replace G : Gr w w25 := ((GB2.only (fun b => w.heap.size ≤ b)).trans (hO2.mono' (fun i e => by omega))).gr (fun i hi e => by omega)
    replace hPP := (hP).gr G
    replace hpb := (hP.b).gr G
    replace hIn := hInB2.onlyAt hO2 (fun ad e h => by have h1 := hIlt ad e; first | omega | (simp only at h; omega))
    replace hCq := hCqB2.only hO2
    replace hC := (RCells.cons (hO2.cell (hCB2.at 0 rfl) (by show ¬ (w.heap.size = q9); omega)) (RCells.cons (hO2.cell (hCB2.at 1 rfl) (by show ¬ (w.heap.size = q9); omega)) (RCells.cons (hO2.cell (hCB2.at 2 rfl) (by show ¬ (w.heap.size = q9); omega)) (RCells.cons (hO2.cell (hCB2.at 3 rfl) (by show ¬ (w.heap.size = q9); omega)) (RCells.nil _)))))
    replace hO1 := hO1.step2 hO2 (fun r e => by (have e2 := e; first | omega | (simp only at e2; omega)))
    refine Y.seq ?_
    refine Y.sg F [(1, Vp w.heap.size), (3, .slice ra11 ((intsN (confK p)).length) rc11), (7, Vi ((i : Int) - 1)), (8, Vp q9), (9, Vi k), (51, .bool (decide ((k : Int) < ((intsN (confK p)).length))))] (Y.pv F (X.move rfl (F.ev 9 (Vi k))) fun ac F=>Y.pv F (X.move rfl (F.ev 3 (.slice ra11 ((intsN (confK p)).length) rc11))) fun ac F=>Y.pv F (X.len1 Try.underlying34 rfl (F.ev 49 (.slice ra11 ((intsN (confK p)).length) rc11))) fun ac F=>Y.pv F (X.binop rfl (F.ev 48 (Vi k)) (F.ev 50 (Vi ((intsN (confK p)).length))) (X.lssI Try.underlying3 rfl)) fun ac F=>Y.fin F) ?_;clear F ac;intro ac F
    cases h26 : decide ((k : Int) < ((intsN (confK p)).length)) with
    | false =>
     try rw [h26] at F
     have h26p : ¬ ((k : Int) < ((intsN (confK p)).length)) := of_decide_eq_false h26
     obtain rfl : k = (intsN (confK p)).length := by omega
     refine Y.condF (F.ev 51 (.bool false)) ?_
     refine Y.exit ?_
     refine X.thenX (X.thenX (X.blockX (X.thenN ?_)))
     refine Y.sl ?_
     refine Y.pv F (X.load rfl (F.ev 8 (Vp q9)) (ownP_load hVw23 (Try.agg27 _) (Try.siz27 _) rfl)) ?_;clear F ac;intro ac F
     have hP6 : PbAt w25 (selP p (skp (confK p) ((i : Int) - 1) (intsN (confK p)).length)) ta20 ha20 xa la20 tc20 hc20 xc lc20 := hCq.at hz hRo (by have := skp_len (K := confK p) (s := (i : Int) - 1) (n := (intsN (confK p)).length); omega)
     refine Y.pc F 22 (X.a1 (F.ev 71 (.agg #[.slice ta20 p.nt tc20, .slice ha20 p.nh hc20, .slice xa ((skp (confK p) ((i : Int) - 1) (intsN (confK p)).length).length) xc, .slice la20 p.nl lc20]))) Try.func22 (best_any (selP p (skp (confK p) ((i : Int) - 1) (intsN (confK p)).length)) ta20 ha20 xa la20 tc20 hc20 xc lc20 w25 hP6) ?_
     clear F ac
     rintro e w27 ⟨ba9, bc9, rfl, -, -, g⟩
     refine ⟨_, rfl, ?_⟩
     intro ac F
     replace G := G.trans g
     replace hC := hC.gr g
     replace hO1 := hO1.thenGr g
     replace hPP := hPP.gr g
     replace hpb := hpb.gr g
     replace hIn := hIn.gr g
     replace hCq := hCq.gr g
     replace hVw23 := hVw23.gr g
     replace hRo := hRo.gr g
     clear g
     have hbe := conf_best hce i (by omega)
     rw [show (confK p).length = (intsN (confK p)).length from (intsN_len _).symm] at hbe
     obtain ⟨be, hbee⟩ : ∃ x, x = (bestR (selP p (skp (confK p) ((i : Int) - 1) (intsN (confK p)).length))).2.2 := ⟨_, rfl⟩
     rw [← hbee] at F hbe
     refine Y.pv4 F (X.move rfl (F.ev 72 (.tuple #[.slice ba9 ((bestR (selP p (skp (confK p) ((i : Int) - 1) (intsN (confK p)).length))).1.length) bc9, Vi ((bestR (selP p (skp (confK p) ((i : Int) - 1) (intsN (confK p)).length))).2.1), Vi be]))) (fun _ F=>X.extract rfl (F.ev 70 (.tuple #[.slice ba9 ((bestR (selP p (skp (confK p) ((i : Int) - 1) (intsN (confK p)).length))).1.length) bc9, Vi ((bestR (selP p (skp (confK p) ((i : Int) - 1) (intsN (confK p)).length))).2.1), Vi be])) rfl) (fun _ F=>X.extract rfl (F.ev 70 (.tuple #[.slice ba9 ((bestR (selP p (skp (confK p) ((i : Int) - 1) (intsN (confK p)).length))).1.length) bc9, Vi ((bestR (selP p (skp (confK p) ((i : Int) - 1) (intsN (confK p)).length))).2.1), Vi be])) rfl) (fun _ F=>X.extract rfl (F.ev 70 (.tuple #[.slice ba9 ((bestR (selP p (skp (confK p) ((i : Int) - 1) (intsN (confK p)).length))).1.length) bc9, Vi ((bestR (selP p (skp (confK p) ((i : Int) - 1) (intsN (confK p)).length))).2.1), Vi be])) rfl) ?_;clear F ac;intro ac F
     refine Y.pv3 F (X.assign rfl (F.ev 73 (.slice ba9 ((bestR (selP p (skp (confK p) ((i : Int) - 1) (intsN (confK p)).length))).1.length) bc9))) (fun _ F=>X.assign rfl (F.ev 74 (Vi ((bestR (selP p (skp (confK p) ((i : Int) - 1) (intsN (confK p)).length))).2.1)))) (fun _ F=>X.assign rfl (F.ev 75 (Vi be))) ?_;clear F ac;intro ac F
     refine Y.nt F [(1, Vp w.heap.size), (3, .slice ra11 ((intsN (confK p)).length) rc11), (7, Vi ((i : Int) - 1)), (12, Vi be)] ?_;clear F ac;intro ac F
     refine Y.sl ?_
     refine Y.pv3 F (X.move rfl (F.ev 7 (Vi ((i : Int) - 1)))) (fun _ F=>X.binop rfl (F.ev 76 (Vi ((i : Int) - 1))) (X.kc (Vi 0) rfl) (X.lssI Try.underlying3 rfl)) (fun _ F=>X.move rfl (F.ev 77 (.bool (decide (((i : Int) - 1 : Int) < 0))))) ?_;clear F ac;intro ac F
     cases h28 : decide (((i : Int) - 1 : Int) < 0) with
     | false =>
      try rw [h28] at F
      have h28p : ¬ (((i : Int) - 1 : Int) < 0) := of_decide_eq_false h28
      refine Y.ps F 2 78 false ?_;clear F ac;intro ac F
      refine Y.ps F 2 78 false ?_;clear F ac;intro ac F
      refine Y.pv2 F (X.pickF rfl (F.ev 78 (.bool false)) (X.kc (.bool false) rfl)) (fun _ F=>X.move rfl (F.ev 81 (.bool false))) ?_;clear F ac;intro ac F
      refine Y.pg F 6 82 false (X.move rfl (F.ev 7 (Vi ((i : Int) - 1)))) ?_;clear F ac;intro ac F
      refine Y.pg F 6 82 false (X.binop rfl (F.ev 83 (Vi ((i : Int) - 1))) (X.kc (Vi 0) rfl) (X.geqI Try.underlying3 rfl)) ?_;clear F ac;intro ac F
      refine Y.pg F 6 82 false (X.move rfl (F.ev 84 (.bool (decide ((0 : Int) ≤ ((i : Int) - 1)))))) ?_;clear F ac;intro ac F
      cases h29 : decide ((0 : Int) ≤ ((i : Int) - 1)) with
      | false =>
       try rw [h29] at F
       have h29p : ¬ ((0 : Int) ≤ ((i : Int) - 1)) := of_decide_eq_false h29
       refine Y.ps F 9 85 false ?_;clear F ac;intro ac F
       refine Y.ps F 9 85 false ?_;clear F ac;intro ac F
       refine Y.pg F 6 82 false (X.pickF rfl (F.ev 85 (.bool false)) (X.kc (.bool false) rfl)) ?_;clear F ac;intro ac F
       refine Y.pv F (X.pickF rfl (F.ev 82 (.bool false)) (F.ev 88 (.bool false))) ?_;clear F ac;intro ac F
       refine Y.nt F [(1, Vp w.heap.size), (3, .slice ra11 ((intsN (confK p)).length) rc11), (7, Vi ((i : Int) - 1)), (89, .bool false)] ?_;clear F ac;intro ac F
       refine Y.condF (F.ev 89 (.bool false)) ?_
       refine Y.skip ?_
       refine X.blockN (X.thenN ?_)
       refine Y.lg F [(1, Vp w.heap.size), (3, .slice ra11 ((intsN (confK p)).length) rc11), (7, Vi (((i : Int) - 1 : Int) + 1))] (by
        refine Y.pv F (X.move rfl (F.ev 7 (Vi ((i : Int) - 1)))) fun ac F=>?_
        refine Y.pv F (X.binop rfl (F.ev 43 (Vi ((i : Int) - 1))) (X.kc (Vi 1) rfl) (X.addI Try.underlying3 rfl (by omega) (by omega))) fun ac F=>?_
        refine Y.pv F (X.assign rfl (F.ev 44 (Vi (((i : Int) - 1 : Int) + 1)))) fun ac F=>?_
        exact Y.fin F) ?_;clear F ac;intro ac F
       refine ⟨_, ?_, i + 1, rfl, hO1, by omega, (by rw [show ((i + 1 : Nat) : Int) - 1 = (i : Int) - 1 + 1 by omega]; exact F.sub _)⟩
       omega
      | true =>
       try rw [h29] at F
       have h29p : ((0 : Int) ≤ ((i : Int) - 1)) := of_decide_eq_true h29
       refine Y.pg F 9 85 true (X.move rfl (F.ev 12 (Vi be))) ?_;clear F ac;intro ac F
       refine Y.pg F 9 85 true (X.binop rfl (F.ev 86 (Vi be)) (X.kc (Vi 0) rfl) (X.neqI Try.underlying31 rfl)) ?_;clear F ac;intro ac F
       refine Y.pg F 6 82 false (X.pickT rfl (F.ev 85 (.bool true)) (F.ev 87 (.bool ((be : Int) != 0)))) ?_;clear F ac;intro ac F
       refine Y.pv F (X.pickF rfl (F.ev 82 (.bool false)) (F.ev 88 (.bool ((be : Int) != 0)))) ?_;clear F ac;intro ac F
       refine Y.nt F [(1, Vp w.heap.size), (3, .slice ra11 ((intsN (confK p)).length) rc11), (7, Vi ((i : Int) - 1)), (89, .bool ((be : Int) != 0))] ?_;clear F ac;intro ac F
       cases h30 : ((be : Int) != 0) with
       | false =>
        try rw [h30] at F
        have h30p : (be : Int) = 0 := by simpa using h30
        refine Y.condF (F.ev 89 (.bool false)) ?_
        refine Y.skip ?_
        refine X.blockN (X.thenN ?_)
        refine Y.lg F [(1, Vp w.heap.size), (3, .slice ra11 ((intsN (confK p)).length) rc11), (7, Vi (((i : Int) - 1 : Int) + 1))] (by
         refine Y.pv F (X.move rfl (F.ev 7 (Vi ((i : Int) - 1)))) fun ac F=>?_
         refine Y.pv F (X.binop rfl (F.ev 43 (Vi ((i : Int) - 1))) (X.kc (Vi 1) rfl) (X.addI Try.underlying3 rfl (by omega) (by omega))) fun ac F=>?_
         refine Y.pv F (X.assign rfl (F.ev 44 (Vi (((i : Int) - 1 : Int) + 1)))) fun ac F=>?_
         exact Y.fin F) ?_;clear F ac;intro ac F
        refine ⟨_, ?_, i + 1, rfl, hO1, by omega, (by rw [show ((i + 1 : Nat) : Int) - 1 = (i : Int) - 1 + 1 by omega]; exact F.sub _)⟩
        omega
       | true =>
        try rw [h30] at F
        have h30p : ¬ (be : Int) = 0 := by simpa using h30
        refine Y.condT (F.ev 89 (.bool true)) ?_
        refine Y.sg F [(2, .bool false)] (Y.pv F (X.assign rfl (X.kc (.bool false) rfl)) fun ac F=>Y.fin F) ?_;clear F ac;intro ac F
        refine Y.ret ?_
        refine X.blockR (X.thenR (X.thenR (X.blockR (X.thenR ?_))))
        exfalso
        revert hbe
        first
         | (rw [if_pos (show i = 0 by omega)]; intro hbe; omega)
         | (rw [if_neg (show ¬ i = 0 by omega)]; intro hbe; omega)
     | true =>
      try rw [h28] at F
      have h28p : (((i : Int) - 1 : Int) < 0) := of_decide_eq_true h28
      refine Y.pg F 2 78 true (X.move rfl (F.ev 12 (Vi be))) ?_;clear F ac;intro ac F
      refine Y.pg F 2 78 true (X.binop rfl (F.ev 79 (Vi be)) (X.kc (Vi 3) rfl) (X.neqI Try.underlying31 rfl)) ?_;clear F ac;intro ac F
      refine Y.pv2 F (X.pickT rfl (F.ev 78 (.bool true)) (F.ev 80 (.bool ((be : Int) != 3)))) (fun _ F=>X.move rfl (F.ev 81 (.bool ((be : Int) != 3)))) ?_;clear F ac;intro ac F
      cases h31 : ((be : Int) != 3) with
      | false =>
       try rw [h31] at F
       have h31p : (be : Int) = 3 := by simpa using h31
       refine Y.pg F 6 82 false (X.move rfl (F.ev 7 (Vi ((i : Int) - 1)))) ?_;clear F ac;intro ac F
       refine Y.pg F 6 82 false (X.binop rfl (F.ev 83 (Vi ((i : Int) - 1))) (X.kc (Vi 0) rfl) (X.geqI Try.underlying3 rfl)) ?_;clear F ac;intro ac F
       refine Y.pg F 6 82 false (X.move rfl (F.ev 84 (.bool (decide ((0 : Int) ≤ ((i : Int) - 1)))))) ?_;clear F ac;intro ac F
       cases h32 : decide ((0 : Int) ≤ ((i : Int) - 1)) with
       | false =>
        try rw [h32] at F
        have h32p : ¬ ((0 : Int) ≤ ((i : Int) - 1)) := of_decide_eq_false h32
        refine Y.ps F 9 85 false ?_;clear F ac;intro ac F
        refine Y.ps F 9 85 false ?_;clear F ac;intro ac F
        refine Y.pg F 6 82 false (X.pickF rfl (F.ev 85 (.bool false)) (X.kc (.bool false) rfl)) ?_;clear F ac;intro ac F
        refine Y.pv F (X.pickF rfl (F.ev 82 (.bool false)) (F.ev 88 (.bool false))) ?_;clear F ac;intro ac F
        refine Y.nt F [(1, Vp w.heap.size), (3, .slice ra11 ((intsN (confK p)).length) rc11), (7, Vi ((i : Int) - 1)), (89, .bool false)] ?_;clear F ac;intro ac F
        refine Y.condF (F.ev 89 (.bool false)) ?_
        refine Y.skip ?_
        refine X.blockN (X.thenN ?_)
        refine Y.lg F [(1, Vp w.heap.size), (3, .slice ra11 ((intsN (confK p)).length) rc11), (7, Vi (((i : Int) - 1 : Int) + 1))] (by
         refine Y.pv F (X.move rfl (F.ev 7 (Vi ((i : Int) - 1)))) fun ac F=>?_
         refine Y.pv F (X.binop rfl (F.ev 43 (Vi ((i : Int) - 1))) (X.kc (Vi 1) rfl) (X.addI Try.underlying3 rfl (by omega) (by omega))) fun ac F=>?_
         refine Y.pv F (X.assign rfl (F.ev 44 (Vi (((i : Int) - 1 : Int) + 1)))) fun ac F=>?_
         exact Y.fin F) ?_;clear F ac;intro ac F
        refine ⟨_, ?_, i + 1, rfl, hO1, by omega, (by rw [show ((i + 1 : Nat) : Int) - 1 = (i : Int) - 1 + 1 by omega]; exact F.sub _)⟩
        omega
       | true =>
        try rw [h32] at F
        have h32p : ((0 : Int) ≤ ((i : Int) - 1)) := of_decide_eq_true h32
        refine Y.pg F 9 85 true (X.move rfl (F.ev 12 (Vi be))) ?_;clear F ac;intro ac F
        refine Y.pg F 9 85 true (X.binop rfl (F.ev 86 (Vi be)) (X.kc (Vi 0) rfl) (X.neqI Try.underlying31 rfl)) ?_;clear F ac;intro ac F
        refine Y.pg F 6 82 false (X.pickT rfl (F.ev 85 (.bool true)) (F.ev 87 (.bool ((be : Int) != 0)))) ?_;clear F ac;intro ac F
        refine Y.pv F (X.pickF rfl (F.ev 82 (.bool false)) (F.ev 88 (.bool ((be : Int) != 0)))) ?_;clear F ac;intro ac F
        refine Y.nt F [(1, Vp w.heap.size), (3, .slice ra11 ((intsN (confK p)).length) rc11), (7, Vi ((i : Int) - 1)), (89, .bool ((be : Int) != 0))] ?_;clear F ac;intro ac F
        cases h33 : ((be : Int) != 0) with
        | false =>
         try rw [h33] at F
         have h33p : (be : Int) = 0 := by simpa using h33
         refine Y.condF (F.ev 89 (.bool false)) ?_
         refine Y.skip ?_
         refine X.blockN (X.thenN ?_)
         refine Y.lg F [(1, Vp w.heap.size), (3, .slice ra11 ((intsN (confK p)).length) rc11), (7, Vi (((i : Int) - 1 : Int) + 1))] (by
          refine Y.pv F (X.move rfl (F.ev 7 (Vi ((i : Int) - 1)))) fun ac F=>?_
          refine Y.pv F (X.binop rfl (F.ev 43 (Vi ((i : Int) - 1))) (X.kc (Vi 1) rfl) (X.addI Try.underlying3 rfl (by omega) (by omega))) fun ac F=>?_
          refine Y.pv F (X.assign rfl (F.ev 44 (Vi (((i : Int) - 1 : Int) + 1)))) fun ac F=>?_
          exact Y.fin F) ?_;clear F ac;intro ac F
         refine ⟨_, ?_, i + 1, rfl, hO1, by omega, (by rw [show ((i + 1 : Nat) : Int) - 1 = (i : Int) - 1 + 1 by omega]; exact F.sub _)⟩
         omega
        | true =>
         try rw [h33] at F
         have h33p : ¬ (be : Int) = 0 := by simpa using h33
         refine Y.condT (F.ev 89 (.bool true)) ?_
         refine Y.sg F [(2, .bool false)] (Y.pv F (X.assign rfl (X.kc (.bool false) rfl)) fun ac F=>Y.fin F) ?_;clear F ac;intro ac F
         refine Y.ret ?_
         refine X.blockR (X.thenR (X.thenR (X.blockR (X.thenR ?_))))
         exfalso
         revert hbe
         first
          | (rw [if_pos (show i = 0 by omega)]; intro hbe; omega)
          | (rw [if_neg (show ¬ i = 0 by omega)]; intro hbe; omega)
      | true =>
       try rw [h31] at F
       have h31p : ¬ (be : Int) = 3 := by simpa using h31
       refine Y.ps F 6 82 true ?_;clear F ac;intro ac F
       refine Y.ps F 6 82 true ?_;clear F ac;intro ac F
       refine Y.ps F 6 82 true ?_;clear F ac;intro ac F
       refine Y.pn F 9 85 ?_;clear F ac;intro ac F
       refine Y.pn F 9 85 ?_;clear F ac;intro ac F
       refine Y.ps F 6 82 true ?_;clear F ac;intro ac F
       refine Y.pv F (X.pickT rfl (F.ev 82 (.bool true)) (X.kc (.bool true) rfl)) ?_;clear F ac;intro ac F
       refine Y.nt F [(1, Vp w.heap.size), (3, .slice ra11 ((intsN (confK p)).length) rc11), (7, Vi ((i : Int) - 1)), (89, .bool true)] ?_;clear F ac;intro ac F
       refine Y.condT (F.ev 89 (.bool true)) ?_
       refine Y.sg F [(2, .bool false)] (Y.pv F (X.assign rfl (X.kc (.bool false) rfl)) fun ac F=>Y.fin F) ?_;clear F ac;intro ac F
       refine Y.ret ?_
       refine X.blockR (X.thenR (X.thenR (X.blockR (X.thenR ?_))))
       exfalso
       revert hbe
       first
        | (rw [if_pos (show i = 0 by omega)]; intro hbe; omega)
        | (rw [if_neg (show ¬ i = 0 by omega)]; intro hbe; omega)
    | true =>
     try rw [h26] at F
     have h26p : ((k : Int) < ((intsN (confK p)).length)) := of_decide_eq_true h26
     have h2k : k < (intsN (confK p)).length := by omega
     have hnl := skp_len (K := confK p) (s := (i : Int) - 1) (n := k)
     refine Y.condT (F.ev 51 (.bool true)) ?_
     refine Y.skip ?_
     refine X.thenN ?_
     refine Y.seq ?_
     refine Y.block ?_
     refine Y.sg F [(1, Vp w.heap.size), (3, .slice ra11 ((intsN (confK p)).length) rc11), (7, Vi ((i : Int) - 1)), (8, Vp q9), (9, Vi k), (56, .bool ((k : Int) != ((i : Int) - 1)))] (Y.pv F (X.move rfl (F.ev 9 (Vi k))) fun ac F=>Y.pv F (X.move rfl (F.ev 7 (Vi ((i : Int) - 1)))) fun ac F=>Y.pv F (X.binop rfl (F.ev 54 (Vi k)) (F.ev 55 (Vi ((i : Int) - 1))) (X.neqI Try.underlying3 rfl)) fun ac F=>Y.fin F) ?_;clear F ac;intro ac F
     cases h34 : ((k : Int) != ((i : Int) - 1)) with
     | false =>
      try rw [h34] at F
      have h34p : (k : Int) = ((i : Int) - 1) := by simpa using h34
      refine Y.condF (F.ev 56 (.bool false)) ?_
      refine Y.skip ?_
      refine X.blockN (X.thenN ?_)
      refine Y.lg F [(1, Vp w.heap.size), (3, .slice ra11 ((intsN (confK p)).length) rc11), (7, Vi ((i : Int) - 1)), (8, Vp q9), (9, Vi ((k : Int) + 1))] (by
       refine Y.pv F (X.move rfl (F.ev 9 (Vi k))) fun ac F=>?_
       refine Y.pv F (X.binop rfl (F.ev 52 (Vi k)) (X.kc (Vi 1) rfl) (X.addI Try.underlying3 rfl (by omega) (by omega))) fun ac F=>?_
       refine Y.pv F (X.assign rfl (F.ev 53 (Vi ((k : Int) + 1)))) fun ac F=>?_
       exact Y.fin F) ?_;clear F ac;intro ac F
      refine ⟨_, ?_, k + 1, xa, xc, rfl, hO2, (by rw [skp_y (by omega)]; exact hVw23), by omega, by rw [skp_y (by omega)]; exact hRo, F.sub _⟩
      omega
     | true =>
      try rw [h34] at F
      have h34p : ¬ (k : Int) = ((i : Int) - 1) := by simpa using h34
      refine Y.condT (F.ev 56 (.bool true)) ?_
      replace hC := hC.append (show RCells w25 ([(Ad q9 2, .slice xa ((skp (confK p) ((i : Int) - 1) k).length) xc)]) from (RCells.cons (hVw23.cell (k := 2) (by decide)) (RCells.nil _)))
      obtain ⟨pd35, pe35, -, pc35⟩ := hIn.at (j := k) (by omega)
      obtain ⟨kk, hkk⟩ : ∃ x, x = (confK p)[k]?.getD 0 := ⟨_, rfl⟩
      rw [intsN_get, ← hkk] at pc35
      have hkb : kk < p.nb := by rw [hkk]; exact confK_get hce (by omega)
      subst pe35
      replace hC := hC.append (show RCells w25 ([(pd35.add k, Vi kk)]) from (RCells.cons pc35 (RCells.nil _)))
      clear pc35
      obtain ⟨pd36, pe36, -, pc36⟩ := hpb.at (j := kk) (by omega)
      subst pe36
      replace hC := hC.append (show RCells w25 (Y.cs (pd36.add (kk * 3)) [Vi (p.bv kk 0), Vi (p.bv kk 1), Vi (p.bv kk 2)]) from (RCells.cons (pc36 0 (by decide)) (RCells.cons (pc36 1 (by decide)) (RCells.cons (pc36 2 (by decide)) (RCells.nil _)))))
      clear pc36
      obtain ⟨Ta, hTa⟩ : ∃ T : Value → World → Prop, T = fun v W => ∃ g, v = .slice (some ⟨g, 0, none⟩) 1 1 ∧ W.heap[g]? = some (.cells #[Vi (p.bv kk 0), Vi (p.bv kk 1), Vi (p.bv kk 2)] 65) := ⟨_, rfl⟩
      have uTa : UpV Ta := by subst hTa; exact fun v W W2 ⟨q, h1, h2⟩ g => ⟨q, h1, (g.below.block _ (Array.getElem?_eq_some_iff.1 h2).1).trans h2⟩
      have hgR : ∀ b, (Value.slice xa (skp (confK p) ((i : Int) - 1) k).length xc).ownBlock = some b → w24.heap.size ≤ b := fun b e => (hRo.ge e).1
      refine region_xi F [some (.pointer (some ⟨q9, 2, none⟩)), some (.slice xa ((skp (confK p) ((i : Int) - 1) k).length) xc), some (.pointer (some ⟨w.heap.size, 2, none⟩)), some (.slice (some pd36) p.nb bc), some (.slice (some pd35) ((intsN (confK p)).length) rc11), some (Vi k), some (.pointer (some (pd35.add k))), some (Vi kk), some (.pointer (some (pd36.add (kk * 3)))), some (.agg #[Vi (p.bv kk 0), Vi (p.bv kk 1), Vi (p.bv kk 2)]), none, none, some (.pointer (some ⟨q9, 2, none⟩)), none] (RPh w25 10 11 13 Ta (TbS w25 w24.heap.size p ((skp (confK p) ((i : Int) - 1) k) ++ [kk]) (.slice xa (skp (confK p) ((i : Int) - 1) k).length xc)) (TcS w25 q9 w24.heap.size p ta20 ha20 la20 tc20 hc20 lc20 ((skp (confK p) ((i : Int) - 1) k) ++ [kk]) (.slice xa (skp (confK p) ((i : Int) - 1) k).length xc))) rfl ⟨by kernel_rfl, of_decide_eq_true (by kernel_rfl), by kernel_rfl, by kernel_rfl, by kernel_rfl⟩ (fun _ => ⟨RPh.start (Gr.refl _), RPh.start (Gr.drew _)⟩) ⟨?_, ?_, ?_, ?_, ?_, ?_, ?_, ?_, ?_, ?_, ?_, ?_, ?_, ?_, trivial⟩ ?_
      ·intro ac done u W Sx hR
       exact X.vl (X.field rfl (Sx.ev 8 (Vp q9)) (X.fld Try.underlying27 rfl (Try.siz24 _) rfl rfl)) (hR.pure (by decide))
      ·intro ac done u W Sx hR
       have hb8 := Sx.no 11 (by kernel_rfl)
       have g : Gr w25 W := hR.g hb8
       exact X.vl (X.load rfl (Sx.ev 57 (.pointer (some ⟨q9, 2, none⟩))) (X.ld1 (Try.agg24 _) ((hC.gr g).at 4 rfl))) (hR.quiet uTa hb8 (Sx.no 13 (by kernel_rfl)) (Gr.refl _) (by decide))
      ·intro ac done u W Sx hR
       exact X.vl (X.field rfl (Sx.ev 1 (Vp w.heap.size)) (X.fld Try.underlying27 rfl (Try.siz24 _) rfl rfl)) (hR.pure (by decide))
      ·intro ac done u W Sx hR
       have hb8 := Sx.no 11 (by kernel_rfl)
       have g : Gr w25 W := hR.g hb8
       exact X.vl (X.load rfl (Sx.ev 59 (.pointer (some ⟨w.heap.size, 2, none⟩))) (X.ld1 (Try.agg24 _) ((hC.gr g).at 2 rfl))) (hR.quiet uTa hb8 (Sx.no 13 (by kernel_rfl)) (Gr.refl _) (by decide))
      ·intro ac done u W Sx hR
       exact X.vl (X.move rfl (Sx.ev 3 (.slice (some pd35) ((intsN (confK p)).length) rc11))) (hR.pure (by decide))
      ·intro ac done u W Sx hR
       exact X.vl (X.move rfl (Sx.ev 9 (Vi k))) (hR.pure (by decide))
      ·intro ac done u W Sx hR
       exact X.val (X.w0 rfl) rfl (X.index rfl (Sx.ev 61 (.slice (some pd35) ((intsN (confK p)).length) rc11)) (Sx.ev 62 (Vi k)) (X.idx (k := k) Try.underlying34 (Try.siz3 _) (by omega) (by omega) (by rw [Nat.mul_one]))) (hR.pure (by decide))
      ·intro ac done u W Sx hR
       have hb8 := Sx.no 11 (by kernel_rfl)
       have g : Gr w25 W := hR.g hb8
       exact X.vl (X.load rfl (Sx.ev 63 (.pointer (some (pd35.add k)))) (X.ld1 (Try.agg3 _) ((hC.gr g).at 5 rfl))) (hR.quiet uTa hb8 (Sx.no 13 (by kernel_rfl)) (Gr.refl _) (by decide))
      ·intro ac done u W Sx hR
       have hb8 := Sx.no 11 (by kernel_rfl)
       have g : Gr w25 W := hR.g hb8
       exact X.vl (X.index rfl (Sx.ev 60 (.slice (some pd36) p.nb bc)) (Sx.ev 64 (Vi kk)) (X.idx (k := kk) Try.underlying24 (Try.siz65 _) (by omega) (by omega) rfl)) (hR.quiet uTa hb8 (Sx.no 13 (by kernel_rfl)) (Gr.refl _) (by decide))
      ·intro ac done u W Sx hR
       have hb8 := Sx.no 11 (by kernel_rfl)
       have g : Gr w25 W := hR.g hb8
       exact X.vl (X.load rfl (Sx.ev 65 (.pointer (some (pd36.add (kk * 3))))) (X.ldN (Try.agg65 _) (Try.siz65 _) (Y.atz (pd36.add (kk * 3)) (Y.AtFrom.cons ((hC.gr g).at 6 rfl) (Y.AtFrom.cons ((hC.gr g).at 7 rfl) (Y.AtFrom.cons ((hC.gr g).at 8 rfl) (Y.AtFrom.nil _ _ _))))))) (hR.quiet uTa hb8 (Sx.no 13 (by kernel_rfl)) (Gr.refl _) (by decide))
      ·intro ac done u W Sx hR
       have hb8 := Sx.no 11 (by kernel_rfl)
       have g : Gr w25 W := hR.g hb8
       exact X.valN (X.w0 rfl) rfl (X.bs rfl (X.b1 (Sx.ev 66 (.agg #[Vi (p.bv kk 0), Vi (p.bv kk 1), Vi (p.bv kk 2)]))) (Try.bs24_1 _ _ _ _)) (hR.sa (by decide) hb8 (Sx.no 13 (by kernel_rfl)) (Gr.alloc _ _) (by subst hTa; exact ⟨_, rfl, heap_alloc_new _ _⟩))
      ·intro ac done u W Sx hR
       have g : Gr w25 W := hR.g Sx.nd
       have hA := hR.ga (Sx.an 10 (by kernel_rfl)) Sx.nd
       rw [hTa] at hA
       obtain ⟨g7, e7, hc9⟩ := hA
       refine X.law (X.w0 rfl) (fun K_ hK => wp_pushV Try.underlying24 Try.info65 rfl (by decide) rfl (Sx.ev 58 (.slice xa ((skp (confK p) ((i : Int) - 1) k).length) xc)) ((Sx.own 10 67 rfl).trans e7) (hRo.gr g) (m := 1) (news := [Vi (p.bv kk 0), Vi (p.bv kk 1), Vi (p.bv kk 2)]) rfl (cells_at (vs := [Vi (p.bv kk 0), Vi (p.bv kk 1), Vi (p.bv kk 2)]) hc9) rfl (by omega) (by decide) (Nat.le_trans hO2.size g.size) (fun v2 W2 hO2 hon hat => hK v2 W2 (fun x hx => by cases hx) (RPh.sb (by decide) (Sx.no 13 (by kernel_rfl)) ?_)))
       obtain ⟨xa3, xc3, rfl⟩ := hO2.form
       refine ⟨xa3, xc3, by rw [List.length_append]; rfl, by rw [List.length_append, selV_snoc]; exact hO2, (g.only _).trans hon, ?_⟩
       rw [List.length_append]
       exact hat.imp (fun h => h) (fun h => ⟨_, h, g.size⟩)
      ·intro ac done u W Sx hR
       exact X.vl (X.field rfl (Sx.ev 8 (Vp q9)) (X.fld Try.underlying27 rfl (Try.siz24 _) rfl rfl)) (hR.pure (by decide))
      ·intro ac done u W Sx hR
       have hB := hR.gb (Sx.an 11 (by kernel_rfl)) Sx.nd
       obtain ⟨xa3, xc3, e8, hO2, hon, hmv⟩ := hB
       have hQ2 := hVw23.only hon (fun e => by have := hgR _ e; omega)
       exact X.unit (X.w0 rfl) rfl (X.store rfl (Sx.ev 69 (.pointer (some ⟨q9, 2, none⟩))) ((Sx.own 11 68 rfl).trans e8) (hQ2.st1 (Try.siz24 _) rfl rfl (by decide))) (RPh.sc (by decide) (Sx.an 11 (by kernel_rfl)) ⟨xa3, xc3, (hQ2.set (k := 2) _).congr qs_set, hO2.only (Y.set_only _ _ _ _) (fun b e h => by have h1 := (hO2.ge e).1; have h2 : b = q9 := h; omega), (hon.mono' (fun i e => .inl e)).trans ((Y.set_only _ _ _ _).mono' (fun i e => .inr e)), hmv⟩)
      rintro ac u w37 hs hd hl_ ho hR
      obtain ⟨xa3, xc3, hQ3, hR3, hon, hmv⟩ := hR.gc rfl
      clear hTa uTa hR
      rw [hkk] at hQ3 hR3
      replace F : Fr ac 91 [(1, Vp w.heap.size), (3, .slice (some pd35) ((intsN (confK p)).length) rc11), (7, Vi ((i : Int) - 1)), (8, Vp q9), (9, Vi k)] := X.fr hs hd hl_ _ (by kernel_rfl)
      clear hs hd hl_ ho
      replace hO2 := hO2.step2 hon (fun r e => e.elim (fun e => .inr (hgR r e)) .inl)
      clear hVw23 hRo
      have hVw23 := hQ3
      have hRo := hR3
      clear hQ3 hR3
      refine X.blockN (X.thenN ?_)
      refine Y.lg F [(1, Vp w.heap.size), (3, .slice (some pd35) ((intsN (confK p)).length) rc11), (7, Vi ((i : Int) - 1)), (8, Vp q9), (9, Vi ((k : Int) + 1))] (by
       refine Y.pv F (X.move rfl (F.ev 9 (Vi k))) fun ac F=>?_
       refine Y.pv F (X.binop rfl (F.ev 52 (Vi k)) (X.kc (Vi 1) rfl) (X.addI Try.underlying3 rfl (by omega) (by omega))) fun ac F=>?_
       refine Y.pv F (X.assign rfl (F.ev 53 (Vi ((k : Int) + 1)))) fun ac F=>?_
       exact Y.fin F) ?_;clear F ac;intro ac F
      refine ⟨_, ?_, k + 1, xa3, xc3, rfl, hO2, (by rw [skp_n (by omega)]; exact hVw23), by omega, by rw [skp_n (by omega)]; exact hRo, F.sub _⟩
      omega
  | true =>
   try rw [h16] at F
   have h16p : ¬ (confE p : Int) = 0 := by simpa using h16
   refine Y.condT (F.ev 37 (.bool true)) ?_
   refine Y.sl ?_
   refine Y.pcall F (X.w0 rfl) rfl (X.enter (F := 16) rfl (X.kc (.func (.func 16) #[] #[]) rfl) rfl (enters_of Try.func16 (by kernel_rfl) rfl _)) (works_any w15) ?_
   clear F ac
   rintro e w38 ⟨rfl, g⟩
   refine ⟨_, rfl, ?_⟩
   intro ac F
   replace G := G.trans g
   replace hC := hC.gr g
   replace hGr9 := hGr9.trans g
   replace hPP := hPP.gr g
   replace hpb := hpb.gr g
   replace hI11 := hI11.gr g
   replace hIn := hIn.gr g
   replace hI13 := hI13.gr g
   clear g
   refine Y.pv F (X.assign rfl (F.ev 38 (.bool true))) ?_;clear F ac;intro ac F
   refine Y.nt F [(2, .bool true)] ?_;clear F ac;intro ac F
   refine Y.ret ?_
   refine X.thenR ?_
   exact Y.ret0 (v := .bool true) F (Y.r1 F) ⟨rfl, G⟩
 | true =>
  try rw [h8] at F
  refine Y.condT (F.ev 14 (.bool true)) ?_
  refine Y.sl ?_
  refine Y.pcall F (X.w0 rfl) rfl (X.enter (F := 16) rfl (X.kc (.func (.func 16) #[] #[]) rfl) rfl (enters_of Try.func16 (by kernel_rfl) rfl _)) (works_any w7) ?_
  clear F ac
  rintro e w39 ⟨rfl, g⟩
  refine ⟨_, rfl, ?_⟩
  intro ac F
  replace G := G.trans g
  replace hC := hC.gr g
  replace hPP := hPP.gr g
  replace hpb := hpb.gr g
  clear g
  refine Y.pv F (X.assign rfl (F.ev 15 (.bool true))) ?_;clear F ac;intro ac F
  refine Y.nt F [(2, .bool true)] ?_;clear F ac;intro ac F
  refine Y.ret ?_
  refine X.thenR ?_
  exact Y.ret0 (v := .bool true) F (Y.r1 F) ⟨rfl, G⟩
end Go.Proofs.Ytodedneanlekdaa
