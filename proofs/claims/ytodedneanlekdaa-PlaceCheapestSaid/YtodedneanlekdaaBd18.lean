/- Several texts of this claim in one file. (1) Contract: the law about the cheapest plan. (2) Leaves that came in, read off their data. (3) A claim that came in, read off its data. -/
import Derived.Test.YtodedneanlekdaaBd16
import Derived.Test.YtodedneanlekdaaBd3
import Derived.Test.YtodedneanlekdaaBd17
import Derived.Test.YtodedneanlekdaaBd15
import Derived.Test.YtodedneanlekdaaBd14
import Derived.Test.YtodedneanlekdaaBd11
import Derived.Deep.SlicePairs
namespace Go.Proofs.Ytodedneanlekdaa
set_option linter.unusedSimpArgs false
set_option linter.unusedVariables false
section
open Go.RowKit

def Y.MP.lv (E : List LfE) : Y.MP := ⟨fun v W => ∃ a c E2, v = .slice a (List.length E2) c ∧ LfAt W a E2 ∧ stripL E2 = stripL E, fun _ _ _ ⟨a, c, E2, h1, h2, h3⟩ g => ⟨a, c, E2, h1, h2.gr g, h3⟩⟩
theorem copied_mp (la9 : Option Addr) (lc9 : Nat) (E : List LfE) (w : World) (hL : LfAt w la9 E) (hE : E.length ≤ 5000) (hx30 : ∀ x ∈ E, x.b.xs.length ≤ 30) :
    Calls Try.prog 49 #[.slice la9 E.length lc9] w fun e w' => ∃ v, e = .returned v ∧ (∃ a c E2, v = .slice a (List.length E2) c ∧ LfAt w' a E2 ∧ stripL E2 = stripL E) ∧ Gr w w' :=
  (copied_any la9 lc9 E w hL hE hx30).mono fun e w' ⟨a, c, E2, he, h1, h2, g⟩ => ⟨_, he, ⟨a, c, E2, rfl, h1, h2⟩, g⟩
set_option maxRecDepth 100000 in
set_option maxHeartbeats 4000000 in
theorem cheapest_any (p : Pb) (ta ha ba la : Option Addr) (tc hc bc lc : Nat) (a : Option Addr) (c : Nat) (xs : List Int) (la9 : Option Addr) (lc9 : Nat) (E : List LfE) (cost : Int) (w : World) (hP : PbAt w p ta ha ba la tc hc bc lc) (hX : Ints w a xs.length xs) (hL : LfAt w la9 E) (hEb : E.length ≤ 1152921504606846975) :
  Calls Try.prog 14 #[.agg #[.slice ta p.nt tc, .slice ha p.nh hc, .slice ba p.nb bc, .slice la p.nl lc], .slice a xs.length c, .agg #[.slice la9 E.length lc9, Vi cost]] w fun e w' => e = .returned (.bool true) ∧ Gr w w' := by
 have G := Gr.refl w
 have hPP := hP
 have hXX := hX
 have hlx := hX.lt
 have hl := hL
 refine Y.calls 154 Try.func14 rfl rfl ?_
 intro ac F0
 have F : Fr ac 154 [(0, .agg #[.slice ta p.nt tc, .slice ha p.nh hc, .slice ba p.nb bc, .slice la p.nl lc]), (1, .slice a xs.length c), (2, .agg #[.slice la9 E.length lc9, Vi cost])] := F0.sub _
 clear F0
 refine Y.sl ?_
 have hgs3 : w.heap.size ≤ w.heap.size := G.size
 refine Y.pv F (X.box rfl (F.ev 0 (.agg #[.slice ta p.nt tc, .slice ha p.nh hc, .slice ba p.nb bc, .slice la p.nl lc])) X.bx) ?_;clear F ac;intro ac F
 have hgs5 : w.heap.size ≤ w.heap.size := G.size
 obtain ⟨w6, hw_, g, hb, hbl, hC2⟩ := Y.bxd (RCells.nil w) #[.slice ta p.nt tc, .slice ha p.nh hc, .slice ba p.nb bc, .slice la p.nl lc] 27;rw [hw_];clear hw_
 replace G := G.trans g
 have hC := hC2
 clear hC2
 replace hPP := hPP.gr g
 replace hXX := hXX.gr g
 replace hl := hl.gr g
 have hsz4 := hbl
 clear g hb hbl
 have hgs7 : w.heap.size ≤ w6.heap.size := G.size
 refine Y.pv F (X.box rfl (F.ev 2 (.agg #[.slice la9 E.length lc9, Vi cost])) X.bx) ?_;clear F ac;intro ac F
 have hgs9 : w.heap.size ≤ w6.heap.size := G.size
 obtain ⟨w10, hw_, g, hb, hbl, hC2⟩ := Y.bxd hC #[.slice la9 E.length lc9, Vi cost] 71;rw [hw_];clear hw_
 replace G := G.trans g
 replace hC := hC2
 clear hC2
 replace hPP := hPP.gr g
 replace hXX := hXX.gr g
 replace hl := hl.gr g
 have hsz8 := hbl
 clear g hb hbl
 refine Y.pv F (X.assign rfl (X.kc (.bool false) rfl)) ?_;clear F ac;intro ac F
 refine Y.nt F [(1, .slice a xs.length c), (3, Vp w.heap.size), (5, Vp w6.heap.size)] ?_;clear F ac;intro ac F
 refine Y.seq ?_
 refine Y.region F [some (Vp w6.heap.size), some (.slice la9 E.length lc9), some (.pointer (some ⟨w6.heap.size, 1, none⟩)), some (Vi cost), some (.slice la9 E.length lc9), some (Vi cost)] [] rfl ⟨by kernel_rfl, of_decide_eq_true (by kernel_rfl), by kernel_rfl, by kernel_rfl, by kernel_rfl⟩ ⟨?_, ?_, ?_, ?_, ?_, ?_, trivial⟩ ?_
 ·intro ac done u W Sx hR
  exact X.vl (X.field rfl (Sx.ev 5 (Vp w6.heap.size)) (X.fld Try.underlying71 rfl (Try.siz45 _) rfl rfl)) hR.st0
 ·intro ac done u W Sx hR
  have g : Gr w10 W := hR.1
  exact X.vl (X.load rfl (Sx.ev 27 (Vp w6.heap.size)) (X.ld1 (Try.agg45 _) ((hC.gr g).at 4 rfl))) hR.st0
 ·intro ac done u W Sx hR
  exact X.vl (X.field rfl (Sx.ev 5 (Vp w6.heap.size)) (X.fld Try.underlying71 rfl (Try.siz3 _) rfl rfl)) hR.st0
 ·intro ac done u W Sx hR
  have g : Gr w10 W := hR.1
  exact X.vl (X.load rfl (Sx.ev 29 (.pointer (some ⟨w6.heap.size, 1, none⟩))) (X.ld1 (Try.agg3 _) ((hC.gr g).at 5 rfl))) hR.st0
 ·intro ac done u W Sx hR
  exact X.vl (X.assign rfl (Sx.ev 28 (.slice la9 E.length lc9))) hR.st0
 ·intro ac done u W Sx hR
  exact X.vl (X.assign rfl (Sx.ev 30 (Vi cost))) hR.st0
 intro ac u w11 hs hd hl ho hR
 have g : Gr w10 w11 := hR.1
 replace F : Fr ac 154 [(1, .slice a xs.length c), (3, Vp w.heap.size), (7, .slice la9 E.length lc9), (8, Vi cost)] := X.fr hs hd hl _ (by kernel_rfl)
 clear hs hd hl ho hR
 replace G := G.trans g
 replace hC := hC.gr g
 replace hPP := hPP.gr g
 replace hXX := hXX.gr g
 replace hl := hl.gr g
 clear g
 refine X.thenN ?_
 refine Y.seq ?_
 refine Y.sl ?_
 refine Y.pv F (X.load rfl (F.ev 3 (Vp w.heap.size)) (X.ldN (Try.agg27 _) (Try.siz27 _) (Y.atz (⟨w.heap.size, 0, none⟩) (Y.AtFrom.cons (hC.at 0 rfl) (Y.AtFrom.cons (hC.at 1 rfl) (Y.AtFrom.cons (hC.at 2 rfl) (Y.AtFrom.cons (hC.at 3 rfl) (Y.AtFrom.nil _ _ _)))))))) fun ac F=>Y.pc F 21 (X.a1 (F.ev 31 (.agg #[.slice ta p.nt tc, .slice ha p.nh hc, .slice ba p.nb bc, .slice la p.nl lc]))) Try.func21 (large_any p ta ha ba la tc hc bc lc w11 hPP) ?_
 clear F ac
 rintro e w12 ⟨rfl, g⟩
 refine ⟨_, rfl, ?_⟩
 intro ac F
 replace G := G.trans g
 replace hC := hC.gr g
 replace hPP := hPP.gr g
 replace hXX := hXX.gr g
 replace hl := hl.gr g
 clear g
 refine Y.pv F (X.move rfl (F.ev 32 (.bool (largeB p)))) ?_;clear F ac;intro ac F
 cases h13 : largeB p with
 | false =>
  try rw [h13] at F
  have hz : SmlP p := large_sz h13
  have hlg := large_pl h13
  refine Y.pg F 2 33 false (X.move rfl (F.ev 1 (.slice a xs.length c))) fun ac F=>Y.pg F 2 33 false (X.len1 Try.underlying34 rfl (F.ev 34 (.slice a xs.length c))) fun ac F=>Y.pg F 2 33 false (X.binop rfl (F.ev 35 (Vi xs.length)) (X.kc (Vi 30) rfl) (X.gtrI Try.underlying3 rfl)) fun ac F=>Y.pv2 F (X.pickF rfl (F.ev 33 (.bool false)) (F.ev 36 (.bool (decide ((30 : Int) < xs.length))))) (fun _ F=>X.move rfl (F.ev 37 (.bool (decide ((30 : Int) < xs.length))))) ?_;clear F ac;intro ac F
  cases h14 : decide ((30 : Int) < xs.length) with
  | false =>
   try rw [h14] at F
   have h14p : ¬ ((30 : Int) < xs.length) := of_decide_eq_false h14
   refine Y.pg F 7 38 false (X.move rfl (F.ev 7 (.slice la9 E.length lc9))) ?_;clear F ac;intro ac F
   refine Y.pcall F (X.w1 rfl (F.yl (j := 7) (d := 38) (b := false) rfl (by kernel_rfl))) rfl (X.enter (F := 47) rfl (X.kc (.func (.func 47) #[] #[]) rfl) (X.a1 (F.ev 39 (.slice la9 E.length lc9))) (enters_of Try.func47 (by kernel_rfl) rfl _)) (many_any la9 lc9 E w12 hl hEb) ?_
   clear F ac
   rintro e w17 ⟨rfl, g⟩
   refine ⟨_, rfl, ?_⟩
   intro ac F
   replace G := G.trans g
   replace hC := hC.gr g
   replace hPP := hPP.gr g
   replace hXX := hXX.gr g
   replace hl := hl.gr g
   clear g
   refine Y.pv F (X.pickF rfl (F.ev 38 (.bool false)) (F.ev 40 (.bool (manyB E)))) ?_;clear F ac;intro ac F
   refine Y.nt F [(1, .slice a xs.length c), (3, Vp w.heap.size), (7, .slice la9 E.length lc9), (8, Vi cost), (41, .bool (manyB E))] ?_;clear F ac;intro ac F
   cases h18 : manyB E with
   | false =>
    try rw [h18] at F
    have hmn := many_no h18
    have hmn1 := hmn.1
    refine Y.cF F 41 ?_
    refine Y.skip ?_
    refine X.thenN ?_
    refine Y.sl ?_
    refine Y.pv F (X.load rfl (F.ev 3 (Vp w.heap.size)) (X.ldN (Try.agg27 _) (Try.siz27 _) (Y.atz (⟨w.heap.size, 0, none⟩) (Y.AtFrom.cons (hC.at 0 rfl) (Y.AtFrom.cons (hC.at 1 rfl) (Y.AtFrom.cons (hC.at 2 rfl) (Y.AtFrom.cons (hC.at 3 rfl) (Y.AtFrom.nil _ _ _)))))))) fun ac F=>Y.pc F 17 (X.a1 (F.ev 43 (.agg #[.slice ta p.nt tc, .slice ha p.nh hc, .slice ba p.nb bc, .slice la p.nl lc]))) Try.func17 (copy_any p ta ha ba la tc hc bc lc w17 hPP hz) ?_
    clear F ac
    rintro e w20 ⟨ta19, ha19, ba19, la19, tc19, hc19, bc19, lc19, rfl, hO19, g⟩
    have hQ19 := hO19.at hz
    refine ⟨_, rfl, ?_⟩
    intro ac F
    replace G := G.trans g
    replace hC := hC.gr g
    replace hPP := hPP.gr g
    replace hXX := hXX.gr g
    replace hl := hl.gr g
    clear g
    refine Y.pv F (Y.al rfl (Try.new27 _)) fun ac F=>Y.punit F (X.w0 rfl) rfl (X.store rfl (F.ev 9 (Vp w20.heap.size)) (F.ev 44 (.agg #[.slice ta19 p.nt tc19, .slice ha19 p.nh hc19, .slice ba19 p.nb bc19, .slice la19 p.nl lc19])) (Y.stNew [.slice ta19 p.nt tc19, .slice ha19 p.nh hc19, .slice ba19 p.nb bc19, .slice la19 p.nl lc19] [.slice none 0 0, .slice none 0 0, .slice none 0 0, .slice none 0 0] (Try.siz27 _) rfl rfl)) ?_;clear F ac;intro ac F
    have hgs21 : w.heap.size ≤ w20.heap.size := G.size
    obtain ⟨w22, hw_, g, hb, hbl, hC2⟩ := Y.bxd hC #[.slice ta19 p.nt tc19, .slice ha19 p.nh hc19, .slice ba19 p.nb bc19, .slice la19 p.nl lc19] 27;rw [hw_];clear hw_
    replace G := G.trans g
    replace hC := hC2
    clear hC2
    replace hPP := hPP.gr g
    replace hXX := hXX.gr g
    replace hl := hl.gr g
    replace hQ19 := hQ19.gr g
    replace hO19 := hO19.gr g
    clear g hb hbl
    refine Y.nt F [(1, .slice a xs.length c), (3, Vp w.heap.size), (7, .slice la9 E.length lc9), (8, Vi cost), (9, Vp w20.heap.size)] ?_;clear F ac;intro ac F
    refine Y.sl ?_
    refine Y.pv F (X.load rfl (F.ev 9 (Vp w20.heap.size)) (X.ldN (Try.agg27 _) (Try.siz27 _) (Y.atz (⟨w20.heap.size, 0, none⟩) (Y.AtFrom.cons (hC.at 6 rfl) (Y.AtFrom.cons (hC.at 7 rfl) (Y.AtFrom.cons (hC.at 8 rfl) (Y.AtFrom.cons (hC.at 9 rfl) (Y.AtFrom.nil _ _ _)))))))) fun ac F=>Y.pc F 22 (X.a1 (F.ev 46 (.agg #[.slice ta19 p.nt tc19, .slice ha19 p.nh hc19, .slice ba19 p.nb bc19, .slice la19 p.nl lc19]))) Try.func22 (best_any p ta19 ha19 ba19 la19 tc19 hc19 bc19 lc19 w22 hQ19) ?_
    clear F ac
    rintro e w24 ⟨ba23, bc23, rfl, hI23, -, g⟩
    refine ⟨_, rfl, ?_⟩
    intro ac F
    replace G := G.trans g
    replace hC := hC.gr g
    replace hPP := hPP.gr g
    replace hXX := hXX.gr g
    replace hl := hl.gr g
    replace hQ19 := hQ19.gr g
    replace hO19 := hO19.gr g
    clear g
    refine Y.pv4 F (X.move rfl (F.ev 47 (.tuple #[.slice ba23 ((bestR p).1.length) bc23, Vi ((bestR p).2.1), Vi ((bestR p).2.2)]))) (fun _ F=>X.extract rfl (F.ev 45 (.tuple #[.slice ba23 ((bestR p).1.length) bc23, Vi ((bestR p).2.1), Vi ((bestR p).2.2)])) rfl) (fun _ F=>X.extract rfl (F.ev 45 (.tuple #[.slice ba23 ((bestR p).1.length) bc23, Vi ((bestR p).2.1), Vi ((bestR p).2.2)])) rfl) (fun _ F=>X.extract rfl (F.ev 45 (.tuple #[.slice ba23 ((bestR p).1.length) bc23, Vi ((bestR p).2.1), Vi ((bestR p).2.2)])) rfl) fun ac F=>Y.pv3 F (X.assign rfl (F.ev 48 (.slice ba23 ((bestR p).1.length) bc23))) (fun _ F=>X.assign rfl (F.ev 49 (Vi ((bestR p).2.1)))) (fun _ F=>X.assign rfl (F.ev 50 (Vi ((bestR p).2.2)))) ?_;clear F ac;intro ac F
    refine Y.nt F [(1, .slice a xs.length c), (3, Vp w.heap.size), (7, .slice la9 E.length lc9), (8, Vi cost), (9, Vp w20.heap.size), (10, .slice ba23 ((bestR p).1.length) bc23), (11, Vi ((bestR p).2.1)), (12, Vi ((bestR p).2.2))] ?_;clear F ac;intro ac F
    refine Y.sl ?_
    refine Y.pv2 F (X.load rfl (F.ev 3 (Vp w.heap.size)) (X.ldN (Try.agg27 _) (Try.siz27 _) (Y.atz (⟨w.heap.size, 0, none⟩) (Y.AtFrom.cons (hC.at 0 rfl) (Y.AtFrom.cons (hC.at 1 rfl) (Y.AtFrom.cons (hC.at 2 rfl) (Y.AtFrom.cons (hC.at 3 rfl) (Y.AtFrom.nil _ _ _)))))))) (fun _ F=>X.move rfl (F.ev 1 (.slice a xs.length c))) fun ac F=>Y.pc F 34 (X.a2 (F.ev 52 (.agg #[.slice ta p.nt tc, .slice ha p.nh hc, .slice ba p.nb bc, .slice la p.nl lc])) (F.ev 53 (.slice a xs.length c))) Try.func34 (allowed2_any p ta ha ba la tc hc bc lc a c xs w24 hPP hXX) ?_
    clear F ac
    rintro e w25 ⟨rfl, g⟩
    refine ⟨_, rfl, ?_⟩
    intro ac F
    replace G := G.trans g
    replace hC := hC.gr g
    replace hPP := hPP.gr g
    replace hXX := hXX.gr g
    replace hl := hl.gr g
    replace hQ19 := hQ19.gr g
    replace hO19 := hO19.gr g
    replace hI23 := hI23.gr g
    clear g
    refine Y.pv4 F (X.move rfl (F.ev 54 (.tuple #[.bool (allowV p xs), Vi (whoE p xs)]))) (fun _ F=>X.extract rfl (F.ev 51 (.tuple #[.bool (allowV p xs), Vi (whoE p xs)])) rfl) (fun _ F=>X.extract rfl (F.ev 51 (.tuple #[.bool (allowV p xs), Vi (whoE p xs)])) rfl) (fun _ F=>X.assign rfl (F.ev 55 (.bool (allowV p xs)))) fun ac F=>Y.pv F (X.assign rfl (F.ev 56 (Vi (whoE p xs)))) ?_;clear F ac;intro ac F
    refine Y.nt F [(1, .slice a xs.length c), (3, Vp w.heap.size), (7, .slice la9 E.length lc9), (8, Vi cost), (9, Vp w20.heap.size), (10, .slice ba23 ((bestR p).1.length) bc23), (11, Vi ((bestR p).2.1)), (12, Vi ((bestR p).2.2)), (13, .bool (allowV p xs)), (14, Vi (whoE p xs))] ?_;clear F ac;intro ac F
    refine Y.sl ?_
    refine Y.pv2 F (X.load rfl (F.ev 3 (Vp w.heap.size)) (X.ldN (Try.agg27 _) (Try.siz27 _) (Y.atz (⟨w.heap.size, 0, none⟩) (Y.AtFrom.cons (hC.at 0 rfl) (Y.AtFrom.cons (hC.at 1 rfl) (Y.AtFrom.cons (hC.at 2 rfl) (Y.AtFrom.cons (hC.at 3 rfl) (Y.AtFrom.nil _ _ _)))))))) (fun _ F=>X.move rfl (F.ev 1 (.slice a xs.length c))) fun ac F=>Y.pc F 36 (X.a2 (F.ev 58 (.agg #[.slice ta p.nt tc, .slice ha p.nh hc, .slice ba p.nb bc, .slice la p.nl lc])) (F.ev 59 (.slice a xs.length c))) Try.func36 (cost2_any p ta ha ba la tc hc bc lc a c xs w25 hPP hXX) ?_
    clear F ac
    rintro e w26 ⟨rfl, g⟩
    refine ⟨_, rfl, ?_⟩
    intro ac F
    replace G := G.trans g
    replace hC := hC.gr g
    replace hPP := hPP.gr g
    replace hXX := hXX.gr g
    replace hl := hl.gr g
    replace hQ19 := hQ19.gr g
    replace hO19 := hO19.gr g
    replace hI23 := hI23.gr g
    clear g
    refine Y.pv4 F (X.move rfl (F.ev 60 (.tuple #[Vi (costV p xs), Vi (whoE p xs)]))) (fun _ F=>X.extract rfl (F.ev 57 (.tuple #[Vi (costV p xs), Vi (whoE p xs)])) rfl) (fun _ F=>X.extract rfl (F.ev 57 (.tuple #[Vi (costV p xs), Vi (whoE p xs)])) rfl) (fun _ F=>X.assign rfl (F.ev 61 (Vi (costV p xs)))) fun ac F=>Y.pv F (X.assign rfl (F.ev 62 (Vi (whoE p xs)))) ?_;clear F ac;intro ac F
    refine Y.nt F [(3, Vp w.heap.size), (7, .slice la9 E.length lc9), (8, Vi cost), (9, Vp w20.heap.size), (10, .slice ba23 ((bestR p).1.length) bc23), (11, Vi ((bestR p).2.1)), (12, Vi ((bestR p).2.2)), (13, .bool (allowV p xs)), (14, Vi (whoE p xs)), (15, Vi (costV p xs))] ?_;clear F ac;intro ac F
    refine Y.seq ?_
    refine Y.sg F [(3, Vp w.heap.size), (7, .slice la9 E.length lc9), (8, Vi cost), (9, Vp w20.heap.size), (10, .slice ba23 ((bestR p).1.length) bc23), (11, Vi ((bestR p).2.1)), (12, Vi ((bestR p).2.2)), (13, .bool (allowV p xs)), (14, Vi (whoE p xs)), (15, Vi (costV p xs)), (64, .bool (((bestR p).2.2 : Int) == 3))] (Y.pv F (X.move rfl (F.ev 12 (Vi ((bestR p).2.2)))) fun ac F=>Y.pv F (X.binop rfl (F.ev 63 (Vi ((bestR p).2.2))) (X.kc (Vi 3) rfl) (X.eqlI Try.underlying31 rfl)) fun ac F=>Y.fin F) ?_;clear F ac;intro ac F
    cases h27 : (((bestR p).2.2 : Int) == 3) with
    | false =>
     try rw [h27] at F
     have h27p : ¬ ((bestR p).2.2 : Int) = 3 := by simpa using h27
     refine Y.cF F 64 ?_
     refine Y.skip ?_
     refine X.thenN ?_
     refine Y.seq ?_
     refine Y.sg F [(3, Vp w.heap.size), (7, .slice la9 E.length lc9), (8, Vi cost), (9, Vp w20.heap.size), (10, .slice ba23 ((bestR p).1.length) bc23), (11, Vi ((bestR p).2.1)), (13, .bool (allowV p xs)), (14, Vi (whoE p xs)), (15, Vi (costV p xs)), (75, .bool (((bestR p).2.2 : Int) != 0))] (Y.pv F (X.move rfl (F.ev 12 (Vi ((bestR p).2.2)))) fun ac F=>Y.pv F (X.binop rfl (F.ev 74 (Vi ((bestR p).2.2))) (X.kc (Vi 0) rfl) (X.neqI Try.underlying31 rfl)) fun ac F=>Y.fin F) ?_;clear F ac;intro ac F
     cases h28 : (((bestR p).2.2 : Int) != 0) with
     | false =>
      try rw [h28] at F
      have h28p : ((bestR p).2.2 : Int) = 0 := by simpa using h28
      have hb0 : (bestR p).2.2 = 0 := by omega
      obtain ⟨hw1, hw2, hw3⟩ := ch_best hb0
      have hch0 := ch_chk hb0
      refine Y.cF F 75 ?_
      refine Y.skip ?_
      refine X.thenN ?_
      refine Y.sl ?_
      refine Y.pv2 F (X.load rfl (F.ev 3 (Vp w.heap.size)) (X.ldN (Try.agg27 _) (Try.siz27 _) (Y.atz (⟨w.heap.size, 0, none⟩) (Y.AtFrom.cons (hC.at 0 rfl) (Y.AtFrom.cons (hC.at 1 rfl) (Y.AtFrom.cons (hC.at 2 rfl) (Y.AtFrom.cons (hC.at 3 rfl) (Y.AtFrom.nil _ _ _)))))))) (fun _ F=>X.move rfl (F.ev 10 (.slice ba23 ((bestR p).1.length) bc23))) fun ac F=>Y.pc F 34 (X.a2 (F.ev 78 (.agg #[.slice ta p.nt tc, .slice ha p.nh hc, .slice ba p.nb bc, .slice la p.nl lc])) (F.ev 79 (.slice ba23 ((bestR p).1.length) bc23))) Try.func34 (allowed2_any p ta ha ba la tc hc bc lc ba23 bc23 ((bestR p).1) w26 hPP hI23) ?_
      clear F ac
      rintro e w29 ⟨rfl, g⟩
      refine ⟨_, rfl, ?_⟩
      intro ac F
      replace G := G.trans g
      replace hC := hC.gr g
      replace hPP := hPP.gr g
      replace hXX := hXX.gr g
      replace hl := hl.gr g
      replace hQ19 := hQ19.gr g
      replace hO19 := hO19.gr g
      replace hI23 := hI23.gr g
      clear g
      refine Y.pv4 F (X.move rfl (F.ev 80 (.tuple #[.bool (allowV p ((bestR p).1)), Vi (whoE p ((bestR p).1))]))) (fun _ F=>X.extract rfl (F.ev 77 (.tuple #[.bool (allowV p ((bestR p).1)), Vi (whoE p ((bestR p).1))])) rfl) (fun _ F=>X.extract rfl (F.ev 77 (.tuple #[.bool (allowV p ((bestR p).1)), Vi (whoE p ((bestR p).1))])) rfl) (fun _ F=>X.assign rfl (F.ev 81 (.bool (allowV p ((bestR p).1))))) fun ac F=>Y.pv F (X.assign rfl (F.ev 82 (Vi (whoE p ((bestR p).1))))) ?_;clear F ac;intro ac F
      refine Y.nt F [(3, Vp w.heap.size), (7, .slice la9 E.length lc9), (8, Vi cost), (9, Vp w20.heap.size), (10, .slice ba23 ((bestR p).1.length) bc23), (11, Vi ((bestR p).2.1)), (13, .bool (allowV p xs)), (14, Vi (whoE p xs)), (15, Vi (costV p xs)), (17, .bool (allowV p ((bestR p).1))), (18, Vi (whoE p ((bestR p).1)))] ?_;clear F ac;intro ac F
      refine Y.sl ?_
      refine Y.pv2 F (X.load rfl (F.ev 3 (Vp w.heap.size)) (X.ldN (Try.agg27 _) (Try.siz27 _) (Y.atz (⟨w.heap.size, 0, none⟩) (Y.AtFrom.cons (hC.at 0 rfl) (Y.AtFrom.cons (hC.at 1 rfl) (Y.AtFrom.cons (hC.at 2 rfl) (Y.AtFrom.cons (hC.at 3 rfl) (Y.AtFrom.nil _ _ _)))))))) (fun _ F=>X.move rfl (F.ev 10 (.slice ba23 ((bestR p).1.length) bc23))) fun ac F=>Y.pc F 36 (X.a2 (F.ev 84 (.agg #[.slice ta p.nt tc, .slice ha p.nh hc, .slice ba p.nb bc, .slice la p.nl lc])) (F.ev 85 (.slice ba23 ((bestR p).1.length) bc23))) Try.func36 (cost2_any p ta ha ba la tc hc bc lc ba23 bc23 ((bestR p).1) w29 hPP hI23) ?_
      clear F ac
      rintro e w30 ⟨rfl, g⟩
      refine ⟨_, rfl, ?_⟩
      intro ac F
      replace G := G.trans g
      replace hC := hC.gr g
      replace hPP := hPP.gr g
      replace hXX := hXX.gr g
      replace hl := hl.gr g
      replace hQ19 := hQ19.gr g
      replace hO19 := hO19.gr g
      replace hI23 := hI23.gr g
      clear g
      refine Y.pv4 F (X.move rfl (F.ev 86 (.tuple #[Vi (costV p ((bestR p).1)), Vi (whoE p ((bestR p).1))]))) (fun _ F=>X.extract rfl (F.ev 83 (.tuple #[Vi (costV p ((bestR p).1)), Vi (whoE p ((bestR p).1))])) rfl) (fun _ F=>X.extract rfl (F.ev 83 (.tuple #[Vi (costV p ((bestR p).1)), Vi (whoE p ((bestR p).1))])) rfl) (fun _ F=>X.assign rfl (F.ev 87 (Vi (costV p ((bestR p).1))))) fun ac F=>Y.pv F (X.assign rfl (F.ev 88 (Vi (whoE p ((bestR p).1))))) ?_;clear F ac;intro ac F
      refine Y.nt F [(7, .slice la9 E.length lc9), (8, Vi cost), (9, Vp w20.heap.size), (11, Vi ((bestR p).2.1)), (13, .bool (allowV p xs)), (14, Vi (whoE p xs)), (15, Vi (costV p xs)), (17, .bool (allowV p ((bestR p).1))), (18, Vi (whoE p ((bestR p).1))), (19, Vi (costV p ((bestR p).1)))] ?_;clear F ac;intro ac F
      refine Y.seqJ (fun ac wr => w30 = wr ∧ Fr ac 154 [(7, .slice la9 E.length lc9), (8, Vi cost), (9, Vp w20.heap.size), (11, Vi ((bestR p).2.1))]) ?_ ?_
      ·refine Y.seq ?_
       refine Y.lit (by kernel_rfl) ?_
       refine Y.pv3 F (X.move rfl (F.ev 18 (Vi (whoE p ((bestR p).1))))) (fun _ F=>X.binop rfl (F.ev 89 (Vi (whoE p ((bestR p).1)))) (X.kc (Vi 0) rfl) (X.neqI Try.underlying31 rfl)) (fun _ F=>X.move rfl (F.ev 90 (.bool ((whoE p ((bestR p).1) : Int) != 0)))) ?_;clear F ac;intro ac F
       have h32 : ((whoE p ((bestR p).1) : Int) != 0) = false := by rw [hw1]; rfl
       try rw [h32] at F
       refine Y.pg F 2 91 false (X.move rfl (F.ev 17 (.bool (allowV p ((bestR p).1))))) fun ac F=>Y.pg F 2 91 false (X.notB rfl (F.ev 92 (.bool (allowV p ((bestR p).1)))) rfl) fun ac F=>Y.pv2 F (X.pickF rfl (F.ev 91 (.bool false)) (F.ev 93 (.bool (!(allowV p ((bestR p).1)))))) (fun _ F=>X.move rfl (F.ev 94 (.bool (!(allowV p ((bestR p).1)))))) ?_;clear F ac;intro ac F
       have h34 : allowV p ((bestR p).1) = true := hw2
       try rw [h34] at F
       refine Y.pg F 6 95 false (X.move rfl (F.ev 19 (Vi (costV p ((bestR p).1))))) fun ac F=>Y.pg F 6 95 false (X.move rfl (F.ev 11 (Vi ((bestR p).2.1)))) fun ac F=>Y.pg F 6 95 false (X.binop rfl (F.ev 96 (Vi (costV p ((bestR p).1)))) (F.ev 97 (Vi ((bestR p).2.1))) (X.neqI Try.underlying3 rfl)) fun ac F=>Y.pv2 F (X.pickF rfl (F.ev 95 (.bool false)) (F.ev 98 (.bool ((costV p ((bestR p).1) : Int) != ((bestR p).2.1))))) (fun _ F=>X.move rfl (F.ev 99 (.bool ((costV p ((bestR p).1) : Int) != ((bestR p).2.1))))) ?_;clear F ac;intro ac F
       have h36 : ((costV p ((bestR p).1) : Int) != ((bestR p).2.1)) = false := by rw [hw3]; simp
       try rw [h36] at F
       refine Y.pg F 11 100 false (X.move rfl (F.ev 14 (Vi (whoE p xs)))) fun ac F=>Y.pg F 11 100 false (X.binop rfl (F.ev 101 (Vi (whoE p xs))) (X.kc (Vi 0) rfl) (X.eqlI Try.underlying31 rfl)) fun ac F=>Y.pg F 11 100 false (X.move rfl (F.ev 102 (.bool ((whoE p xs : Int) == 0)))) ?_;clear F ac;intro ac F
       cases h37 : ((whoE p xs : Int) == 0) with
       | false =>
        try rw [h37] at F
        have h37p : ¬ (whoE p xs : Int) = 0 := by simpa using h37
        refine Y.ps F 14 103 false fun ac F=>Y.pg F 11 100 false (X.pickF rfl (F.ev 103 (.bool false)) (X.kc (.bool false) rfl)) fun ac F=>Y.pg F 11 100 false (X.move rfl (F.ev 105 (.bool false))) fun ac F=>Y.p3 F 17 106 false fun ac F=>Y.pg F 11 100 false (X.pickF rfl (F.ev 106 (.bool false)) (X.kc (.bool false) rfl)) fun ac F=>Y.pv F (X.pickF rfl (F.ev 100 (.bool false)) (F.ev 110 (.bool false))) ?_;clear F ac;intro ac F
        refine Y.nt F [(7, .slice la9 E.length lc9), (8, Vi cost), (9, Vp w20.heap.size), (11, Vi ((bestR p).2.1)), (111, .bool false)] ?_;clear F ac;intro ac F
        refine Y.cF F 111 ?_
        refine Y.skip ?_
        refine X.thenN ?_
        exact ⟨rfl, F.sub _⟩
       | true =>
        try rw [h37] at F
        have h37p : (whoE p xs : Int) = 0 := by simpa using h37
        refine Y.pg F 14 103 true (X.move rfl (F.ev 13 (.bool (allowV p xs)))) fun ac F=>Y.pg F 11 100 false (X.pickT rfl (F.ev 103 (.bool true)) (F.ev 104 (.bool (allowV p xs)))) fun ac F=>Y.pg F 11 100 false (X.move rfl (F.ev 105 (.bool (allowV p xs)))) ?_;clear F ac;intro ac F
        cases h38 : allowV p xs with
        | false =>
         try rw [h38] at F
         refine Y.p3 F 17 106 false fun ac F=>Y.pg F 11 100 false (X.pickF rfl (F.ev 106 (.bool false)) (X.kc (.bool false) rfl)) fun ac F=>Y.pv F (X.pickF rfl (F.ev 100 (.bool false)) (F.ev 110 (.bool false))) ?_;clear F ac;intro ac F
         refine Y.nt F [(7, .slice la9 E.length lc9), (8, Vi cost), (9, Vp w20.heap.size), (11, Vi ((bestR p).2.1)), (111, .bool false)] ?_;clear F ac;intro ac F
         refine Y.cF F 111 ?_
         refine Y.skip ?_
         refine X.thenN ?_
         exact ⟨rfl, F.sub _⟩
        | true =>
         try rw [h38] at F
         refine Y.pg F 17 106 true (X.move rfl (F.ev 15 (Vi (costV p xs)))) fun ac F=>Y.pg F 17 106 true (X.move rfl (F.ev 11 (Vi ((bestR p).2.1)))) fun ac F=>Y.pg F 17 106 true (X.binop rfl (F.ev 107 (Vi (costV p xs))) (F.ev 108 (Vi ((bestR p).2.1))) (X.lssI Try.underlying3 rfl)) fun ac F=>Y.pg F 11 100 false (X.pickT rfl (F.ev 106 (.bool true)) (F.ev 109 (.bool (decide ((costV p xs : Int) < ((bestR p).2.1)))))) fun ac F=>Y.pv F (X.pickF rfl (F.ev 100 (.bool false)) (F.ev 110 (.bool (decide ((costV p xs : Int) < ((bestR p).2.1)))))) ?_;clear F ac;intro ac F
         refine Y.nt F [(7, .slice la9 E.length lc9), (8, Vi cost), (9, Vp w20.heap.size), (11, Vi ((bestR p).2.1)), (111, .bool (decide ((costV p xs : Int) < ((bestR p).2.1))))] ?_;clear F ac;intro ac F
         have h40 : decide ((costV p xs : Int) < ((bestR p).2.1)) = false := decide_eq_false (ch_min hb0 (by omega) h38)
         have h40p : ¬ ((costV p xs : Int) < ((bestR p).2.1)) := of_decide_eq_false h40
         try rw [h40] at F
         refine Y.cF F 111 ?_
         refine Y.skip ?_
         refine X.thenN ?_
         exact ⟨rfl, F.sub _⟩
      ·clear F ac
       rintro ac _ ⟨rfl, F⟩
       refine Y.sl ?_
       refine Y.pv F (X.load rfl (F.ev 9 (Vp w20.heap.size)) (X.ldN (Try.agg27 _) (Try.siz27 _) (Y.atz (⟨w20.heap.size, 0, none⟩) (Y.AtFrom.cons (hC.at 6 rfl) (Y.AtFrom.cons (hC.at 7 rfl) (Y.AtFrom.cons (hC.at 8 rfl) (Y.AtFrom.cons (hC.at 9 rfl) (Y.AtFrom.nil _ _ _)))))))) fun ac F=>Y.pc F 30 (X.a1 (F.ev 113 (.agg #[.slice ta19 p.nt tc19, .slice ha19 p.nh hc19, .slice ba19 p.nb bc19, .slice la19 p.nl lc19]))) Try.func30 (prove_any p ta19 ha19 ba19 la19 tc19 hc19 bc19 lc19 hlg w30 hQ19) ?_
       clear F ac
       rintro e w42 ⟨ra41, rc41, E5, rfl, hr41, hm41, hl5, g⟩
       refine ⟨_, rfl, ?_⟩
       intro ac F
       replace G := G.trans g
       replace hC := hC.gr g
       replace hPP := hPP.gr g
       replace hXX := hXX.gr g
       replace hl := hl.gr g
       replace hQ19 := hQ19.gr g
       replace hO19 := hO19.gr g
       replace hI23 := hI23.gr g
       clear g
       refine Y.pv4 F (X.move rfl (F.ev 114 (.tuple #[.slice ra41 E5.length rc41, Vi (chkE p)]))) (fun _ F=>X.extract rfl (F.ev 112 (.tuple #[.slice ra41 E5.length rc41, Vi (chkE p)])) rfl) (fun _ F=>X.extract rfl (F.ev 112 (.tuple #[.slice ra41 E5.length rc41, Vi (chkE p)])) rfl) (fun _ F=>X.assign rfl (F.ev 115 (.slice ra41 E5.length rc41))) fun ac F=>Y.pv F (X.assign rfl (F.ev 116 (Vi (chkE p)))) ?_;clear F ac;intro ac F
       refine Y.nt F [(7, .slice la9 E.length lc9), (8, Vi cost), (9, Vp w20.heap.size), (11, Vi ((bestR p).2.1)), (21, .slice ra41 E5.length rc41), (22, Vi (chkE p))] ?_;clear F ac;intro ac F
       refine Y.seq ?_
       refine Y.sg F [(7, .slice la9 E.length lc9), (8, Vi cost), (9, Vp w20.heap.size), (11, Vi ((bestR p).2.1)), (21, .slice ra41 E5.length rc41), (118, .bool ((chkE p : Int) == 0))] (Y.pv F (X.move rfl (F.ev 22 (Vi (chkE p)))) fun ac F=>Y.pv F (X.binop rfl (F.ev 117 (Vi (chkE p))) (X.kc (Vi 0) rfl) (X.eqlI Try.underlying31 rfl)) fun ac F=>Y.fin F) ?_;clear F ac;intro ac F
       have h44 : ((chkE p : Int) == 0) = true := by rw [hch0]; rfl
       try rw [h44] at F
       refine Y.cT F 118 ?_
       refine Y.sl ?_
       refine Y.pv3 F (X.load rfl (F.ev 9 (Vp w20.heap.size)) (X.ldN (Try.agg27 _) (Try.siz27 _) (Y.atz (⟨w20.heap.size, 0, none⟩) (Y.AtFrom.cons (hC.at 6 rfl) (Y.AtFrom.cons (hC.at 7 rfl) (Y.AtFrom.cons (hC.at 8 rfl) (Y.AtFrom.cons (hC.at 9 rfl) (Y.AtFrom.nil _ _ _)))))))) (fun _ F=>X.move rfl (F.ev 21 (.slice ra41 E5.length rc41))) (fun _ F=>X.move rfl (F.ev 11 (Vi ((bestR p).2.1)))) fun ac F=>Y.pc F 48 (X.a3 (F.ev 120 (.agg #[.slice ta19 p.nt tc19, .slice ha19 p.nh hc19, .slice ba19 p.nb bc19, .slice la19 p.nl lc19])) (F.ev 121 (.slice ra41 E5.length rc41)) (F.ev 122 (Vi ((bestR p).2.1)))) Try.func48 (provs_any p ta19 ha19 ba19 la19 tc19 hc19 bc19 lc19 ra41 rc41 E5 (bestR p).2.1 w42 hQ19 hr41 (by omega)) ?_
       clear F ac
       rintro e w46 ⟨rfl, g⟩
       refine ⟨_, rfl, ?_⟩
       intro ac F
       replace G := G.trans g
       replace hC := hC.gr g
       replace hPP := hPP.gr g
       replace hXX := hXX.gr g
       replace hl := hl.gr g
       replace hQ19 := hQ19.gr g
       replace hO19 := hO19.gr g
       replace hI23 := hI23.gr g
       replace hr41 := hr41.gr g
       clear g
       refine Y.pv4 F (X.move rfl (F.ev 123 (.tuple #[.bool (provB p (bestR p).2.1 E5), Vi (chkE p)]))) (fun _ F=>X.extract rfl (F.ev 119 (.tuple #[.bool (provB p (bestR p).2.1 E5), Vi (chkE p)])) rfl) (fun _ F=>X.extract rfl (F.ev 119 (.tuple #[.bool (provB p (bestR p).2.1 E5), Vi (chkE p)])) rfl) (fun _ F=>X.assign rfl (F.ev 124 (.bool (provB p (bestR p).2.1 E5)))) fun ac F=>Y.pv F (X.assign rfl (F.ev 125 (Vi (chkE p)))) ?_;clear F ac;intro ac F
       refine Y.nt F [(7, .slice la9 E.length lc9), (8, Vi cost), (9, Vp w20.heap.size), (11, Vi ((bestR p).2.1)), (23, .bool (provB p (bestR p).2.1 E5)), (24, Vi (chkE p))] ?_;clear F ac;intro ac F
       refine Y.sl ?_
       refine Y.pv3 F (X.move rfl (F.ev 24 (Vi (chkE p)))) (fun _ F=>X.binop rfl (F.ev 126 (Vi (chkE p))) (X.kc (Vi 0) rfl) (X.neqI Try.underlying31 rfl)) (fun _ F=>X.move rfl (F.ev 127 (.bool ((chkE p : Int) != 0)))) ?_;clear F ac;intro ac F
       have h48 : ((chkE p : Int) != 0) = false := by rw [hch0]; rfl
       try rw [h48] at F
       refine Y.pg F 2 128 false (X.move rfl (F.ev 23 (.bool (provB p (bestR p).2.1 E5)))) fun ac F=>Y.pg F 2 128 false (X.notB rfl (F.ev 129 (.bool (provB p (bestR p).2.1 E5))) rfl) fun ac F=>Y.pv F (X.pickF rfl (F.ev 128 (.bool false)) (F.ev 130 (.bool (!(provB p (bestR p).2.1 E5))))) ?_;clear F ac;intro ac F
       refine Y.nt F [(7, .slice la9 E.length lc9), (8, Vi cost), (9, Vp w20.heap.size), (11, Vi ((bestR p).2.1)), (131, .bool (!(provB p (bestR p).2.1 E5)))] ?_;clear F ac;intro ac F
       have h50 : provB p (bestR p).2.1 E5 = true := ch_own hb0 hm41
       try rw [h50] at F
       refine Y.cF F 131 ?_
       refine Y.skip ?_
       refine X.thenN ?_
       refine Y.seq ?_
       refine Y.region F [some (.agg #[.slice ta19 p.nt tc19, .slice ha19 p.nh hc19, .slice ba19 p.nb bc19, .slice la19 p.nl lc19]), some (.slice la9 E.length lc9), none, some (Vi cost), some (.tuple #[.bool (provB p cost E), Vi (chkE p)]), some (.tuple #[.bool (provB p cost E), Vi (chkE p)]), some (.bool (provB p cost E)), some (Vi (chkE p)), some (.bool (provB p cost E)), some (Vi (chkE p))] [(2, Y.MP.lv E)] rfl ⟨by kernel_rfl, of_decide_eq_true (by kernel_rfl), by kernel_rfl, by kernel_rfl, by kernel_rfl⟩ ⟨?_, ?_, ?_, ?_, ?_, ?_, ?_, ?_, ?_, ?_, trivial⟩ ?_
       ·intro ac done u W Sx hR
        have g : Gr w46 W := hR.1
        exact X.vl (X.load rfl (Sx.ev 9 (Vp w20.heap.size)) (X.ldN (Try.agg27 _) (Try.siz27 _) (Y.atz (⟨w20.heap.size, 0, none⟩) (Y.AtFrom.cons ((hC.gr g).at 6 rfl) (Y.AtFrom.cons ((hC.gr g).at 7 rfl) (Y.AtFrom.cons ((hC.gr g).at 8 rfl) (Y.AtFrom.cons ((hC.gr g).at 9 rfl) (Y.AtFrom.nil _ _ _)))))))) hR.st0
       ·intro ac done u W Sx hR
        exact X.vl (X.move rfl (Sx.ev 7 (.slice la9 E.length lc9))) hR.st0
       ·intro ac done u W Sx hR
        have g : Gr w46 W := hR.1
        refine X.call (X.w0 rfl) (X.enter (F := 49) rfl (X.kc (.func (.func 49) #[] #[]) rfl) (X.a1 (Sx.ev 134 (.slice la9 E.length lc9))) (enters_of Try.func49 (by kernel_rfl) rfl _)) (copied_mp la9 lc9 E W (hl.gr g) (by omega) hmn.2) ?_
        rintro e W2 ⟨v, rfl, hp, g2⟩
        exact ⟨_, rfl, X.un rfl, hR.new (q := Y.MP.lv E) g2 rfl hp⟩
       ·intro ac done u W Sx hR
        exact X.vl (X.move rfl (Sx.ev 8 (Vi cost))) hR.st0
       ·intro ac done u W Sx hR
        have g : Gr w46 W := hR.1
        obtain ⟨ca7, cc7, E2, e2, hL7, hm7⟩ := hR.get (i := 2) (Y.MP.lv E) rfl (Sx.an 2 (by kernel_rfl))
        refine X.call (X.w0 rfl) (X.enter (F := 48) rfl (X.kc (.func (.func 48) #[] #[]) rfl) (X.a3 (Sx.ev 133 (.agg #[.slice ta19 p.nt tc19, .slice ha19 p.nh hc19, .slice ba19 p.nb bc19, .slice la19 p.nl lc19])) ((Sx.own 2 135 rfl).trans e2) (Sx.ev 136 (Vi cost))) (enters_of Try.func48 (by kernel_rfl) rfl _)) (by have hq := provs_any p ta19 ha19 ba19 la19 tc19 hc19 bc19 lc19 ca7 cc7 E2 cost W (hQ19.gr g) hL7 (by have h9 := congrArg List.length hm7; rw [stripL_len, stripL_len] at h9; omega); rw [prov_strip hm7] at hq; exact hq) ?_
        rintro e W2 ⟨rfl, g2⟩
        exact ⟨_, rfl, X.kn rfl, hR.step g2 rfl⟩
       ·intro ac done u W Sx hR
        exact X.vl (X.move rfl (Sx.ev 137 (.tuple #[.bool (provB p cost E), Vi (chkE p)]))) hR.st0
       ·intro ac done u W Sx hR
        exact X.vl (X.extract rfl (Sx.ev 132 (.tuple #[.bool (provB p cost E), Vi (chkE p)])) rfl) hR.st0
       ·intro ac done u W Sx hR
        exact X.vl (X.extract rfl (Sx.ev 132 (.tuple #[.bool (provB p cost E), Vi (chkE p)])) rfl) hR.st0
       ·intro ac done u W Sx hR
        exact X.vl (X.assign rfl (Sx.ev 138 (.bool (provB p cost E)))) hR.st0
       ·intro ac done u W Sx hR
        exact X.vl (X.assign rfl (Sx.ev 139 (Vi (chkE p)))) hR.st0
       intro ac u w51 hs hd hl ho hR
       have g : Gr w46 w51 := hR.1
       obtain ⟨ca7, cc7, E2, e2, hL7, hm7⟩ := hR.get (i := 2) (Y.MP.lv E) rfl rfl
       replace F : Fr ac 154 [(8, Vi cost), (11, Vi ((bestR p).2.1)), (25, .bool (provB p cost E)), (26, Vi (chkE p))] := X.fr hs hd hl _ (by kernel_rfl)
       replace F : Fr ac 154 [(8, Vi cost), (11, Vi ((bestR p).2.1)), (25, .bool (provB p cost E)), (26, Vi (chkE p))] := F.sub _
       clear e2
       clear hs hd hl ho hR
       replace G := G.trans g
       replace hC := hC.gr g
       replace hPP := hPP.gr g
       replace hXX := hXX.gr g
       replace hl := hl.gr g
       replace hQ19 := hQ19.gr g
       replace hO19 := hO19.gr g
       replace hI23 := hI23.gr g
       replace hr41 := hr41.gr g
       clear g
       refine X.thenN ?_
       refine Y.sl ?_
       refine Y.pv3 F (X.move rfl (F.ev 26 (Vi (chkE p)))) (fun _ F=>X.binop rfl (F.ev 140 (Vi (chkE p))) (X.kc (Vi 0) rfl) (X.neqI Try.underlying31 h48)) (fun _ F=>X.move rfl (F.ev 141 (.bool false))) fun ac F=>Y.pg F 2 142 false (X.move rfl (F.ev 25 (.bool (provB p cost E)))) fun ac F=>Y.pg F 2 142 false (X.notB rfl (F.ev 143 (.bool (provB p cost E))) rfl) fun ac F=>Y.pv2 F (X.pickF rfl (F.ev 142 (.bool false)) (F.ev 144 (.bool (!(provB p cost E))))) (fun _ F=>X.move rfl (F.ev 145 (.bool (!(provB p cost E))))) ?_;clear F ac;intro ac F
       cases h52 : provB p cost E with
       | false =>
        try rw [h52] at F
        refine Y.p3 F 6 146 true fun ac F=>Y.pv2 F (X.pickT rfl (F.ev 146 (.bool true)) (X.kc (.bool true) rfl)) (fun _ F=>X.move rfl (F.ev 150 (.bool true))) ?_;clear F ac;intro ac F
        refine Y.pcall F (X.w1 rfl (F.yl (j := 11) (d := 151) (b := true) rfl (by kernel_rfl))) rfl (X.enter (F := 16) rfl (X.kc (.func (.func 16) #[] #[]) rfl) rfl (enters_of Try.func16 (by kernel_rfl) rfl _)) (works_any w51) ?_
        clear F ac
        rintro e w53 ⟨rfl, g⟩
        refine ⟨_, rfl, ?_⟩
        intro ac F
        replace G := G.trans g
        replace hC := hC.gr g
        replace hPP := hPP.gr g
        replace hXX := hXX.gr g
        replace hl := hl.gr g
        replace hQ19 := hQ19.gr g
        replace hO19 := hO19.gr g
        replace hI23 := hI23.gr g
        replace hr41 := hr41.gr g
        clear g
        refine Y.pv2 F (X.pickT rfl (F.ev 151 (.bool true)) (F.ev 152 (.bool true))) (fun _ F=>X.assign rfl (F.ev 153 (.bool true))) ?_;clear F ac;intro ac F
        refine Y.nt F [(6, .bool true)] ?_;clear F ac;intro ac F
        refine Y.ret ?_
        exact Y.ret0 (v := .bool true) F (Y.r1 F) ⟨rfl, G⟩
       | true =>
        try rw [h52] at F
        refine Y.pg F 6 146 false (X.move rfl (F.ev 11 (Vi ((bestR p).2.1)))) fun ac F=>Y.pg F 6 146 false (X.move rfl (F.ev 8 (Vi cost))) fun ac F=>Y.pg F 6 146 false (X.binop rfl (F.ev 147 (Vi ((bestR p).2.1))) (F.ev 148 (Vi cost)) (X.geqI Try.underlying3 rfl)) fun ac F=>Y.pv2 F (X.pickF rfl (F.ev 146 (.bool false)) (F.ev 149 (.bool (decide ((cost : Int) ≤ ((bestR p).2.1)))))) (fun _ F=>X.move rfl (F.ev 150 (.bool (decide ((cost : Int) ≤ ((bestR p).2.1)))))) ?_;clear F ac;intro ac F
        have h55 : decide ((cost : Int) ≤ ((bestR p).2.1)) = true := decide_eq_true (ch_any hb0 h52)
        have h55p : ((cost : Int) ≤ ((bestR p).2.1)) := of_decide_eq_true h55
        try rw [h55] at F
        refine Y.pcall F (X.w1 rfl (F.yl (j := 11) (d := 151) (b := true) rfl (by kernel_rfl))) rfl (X.enter (F := 16) rfl (X.kc (.func (.func 16) #[] #[]) rfl) rfl (enters_of Try.func16 (by kernel_rfl) rfl _)) (works_any w51) ?_
        clear F ac
        rintro e w56 ⟨rfl, g⟩
        refine ⟨_, rfl, ?_⟩
        intro ac F
        replace G := G.trans g
        replace hC := hC.gr g
        replace hPP := hPP.gr g
        replace hXX := hXX.gr g
        replace hl := hl.gr g
        replace hQ19 := hQ19.gr g
        replace hO19 := hO19.gr g
        replace hI23 := hI23.gr g
        replace hr41 := hr41.gr g
        clear g
        refine Y.pv2 F (X.pickT rfl (F.ev 151 (.bool true)) (F.ev 152 (.bool true))) (fun _ F=>X.assign rfl (F.ev 153 (.bool true))) ?_;clear F ac;intro ac F
        refine Y.nt F [(6, .bool true)] ?_;clear F ac;intro ac F
        refine Y.ret ?_
        exact Y.ret0 (v := .bool true) F (Y.r1 F) ⟨rfl, G⟩
     | true =>
      try rw [h28] at F
      have h28p : ¬ ((bestR p).2.2 : Int) = 0 := by simpa using h28
      refine Y.cT F 75 ?_
      refine Y.sl ?_
      refine Y.pcall F (X.w0 rfl) rfl (X.enter (F := 16) rfl (X.kc (.func (.func 16) #[] #[]) rfl) rfl (enters_of Try.func16 (by kernel_rfl) rfl _)) (works_any w26) ?_
      clear F ac
      rintro e w57 ⟨rfl, g⟩
      refine ⟨_, rfl, ?_⟩
      intro ac F
      replace G := G.trans g
      replace hC := hC.gr g
      replace hPP := hPP.gr g
      replace hXX := hXX.gr g
      replace hl := hl.gr g
      replace hQ19 := hQ19.gr g
      replace hO19 := hO19.gr g
      replace hI23 := hI23.gr g
      clear g
      refine Y.pv F (X.assign rfl (F.ev 76 (.bool true))) ?_;clear F ac;intro ac F
      refine Y.nt F [(6, .bool true)] ?_;clear F ac;intro ac F
      refine Y.ret ?_
      refine X.thenR ?_
      exact Y.ret0 (v := .bool true) F (Y.r1 F) ⟨rfl, G⟩
    | true =>
     try rw [h27] at F
     have h27p : ((bestR p).2.2 : Int) = 3 := by simpa using h27
     have hb3 : (bestR p).2.2 = 3 := by omega
     refine Y.cT F 64 ?_
     refine Y.sl ?_
     refine Y.pv3 F (X.move rfl (F.ev 14 (Vi (whoE p xs)))) (fun _ F=>X.binop rfl (F.ev 65 (Vi (whoE p xs))) (X.kc (Vi 0) rfl) (X.neqI Try.underlying31 rfl)) (fun _ F=>X.move rfl (F.ev 66 (.bool ((whoE p xs : Int) != 0)))) ?_;clear F ac;intro ac F
     cases h58 : ((whoE p xs : Int) != 0) with
     | false =>
      try rw [h58] at F
      have h58p : (whoE p xs : Int) = 0 := by simpa using h58
      refine Y.pg F 2 67 false (X.move rfl (F.ev 13 (.bool (allowV p xs)))) fun ac F=>Y.pg F 2 67 false (X.notB rfl (F.ev 68 (.bool (allowV p xs))) rfl) fun ac F=>Y.pv2 F (X.pickF rfl (F.ev 67 (.bool false)) (F.ev 69 (.bool (!(allowV p xs))))) (fun _ F=>X.move rfl (F.ev 70 (.bool (!(allowV p xs))))) ?_;clear F ac;intro ac F
      have h60 : allowV p xs = false := ch_none hb3 (by omega)
      try rw [h60] at F
      refine Y.pcall F (X.w1 rfl (F.yl (j := 6) (d := 71) (b := true) rfl (by kernel_rfl))) rfl (X.enter (F := 16) rfl (X.kc (.func (.func 16) #[] #[]) rfl) rfl (enters_of Try.func16 (by kernel_rfl) rfl _)) (works_any w26) ?_
      clear F ac
      rintro e w61 ⟨rfl, g⟩
      refine ⟨_, rfl, ?_⟩
      intro ac F
      replace G := G.trans g
      replace hC := hC.gr g
      replace hPP := hPP.gr g
      replace hXX := hXX.gr g
      replace hl := hl.gr g
      replace hQ19 := hQ19.gr g
      replace hO19 := hO19.gr g
      replace hI23 := hI23.gr g
      clear g
      refine Y.pv2 F (X.pickT rfl (F.ev 71 (.bool true)) (F.ev 72 (.bool true))) (fun _ F=>X.assign rfl (F.ev 73 (.bool true))) ?_;clear F ac;intro ac F
      refine Y.nt F [(6, .bool true)] ?_;clear F ac;intro ac F
      refine Y.ret ?_
      refine X.thenR ?_
      exact Y.ret0 (v := .bool true) F (Y.r1 F) ⟨rfl, G⟩
     | true =>
      try rw [h58] at F
      have h58p : ¬ (whoE p xs : Int) = 0 := by simpa using h58
      refine Y.p2 F 2 67 true fun ac F=>Y.pv2 F (X.pickT rfl (F.ev 67 (.bool true)) (X.kc (.bool true) rfl)) (fun _ F=>X.move rfl (F.ev 70 (.bool true))) ?_;clear F ac;intro ac F
      refine Y.pcall F (X.w1 rfl (F.yl (j := 6) (d := 71) (b := true) rfl (by kernel_rfl))) rfl (X.enter (F := 16) rfl (X.kc (.func (.func 16) #[] #[]) rfl) rfl (enters_of Try.func16 (by kernel_rfl) rfl _)) (works_any w26) ?_
      clear F ac
      rintro e w62 ⟨rfl, g⟩
      refine ⟨_, rfl, ?_⟩
      intro ac F
      replace G := G.trans g
      replace hC := hC.gr g
      replace hPP := hPP.gr g
      replace hXX := hXX.gr g
      replace hl := hl.gr g
      replace hQ19 := hQ19.gr g
      replace hO19 := hO19.gr g
      replace hI23 := hI23.gr g
      clear g
      refine Y.pv2 F (X.pickT rfl (F.ev 71 (.bool true)) (F.ev 72 (.bool true))) (fun _ F=>X.assign rfl (F.ev 73 (.bool true))) ?_;clear F ac;intro ac F
      refine Y.nt F [(6, .bool true)] ?_;clear F ac;intro ac F
      refine Y.ret ?_
      refine X.thenR ?_
      exact Y.ret0 (v := .bool true) F (Y.r1 F) ⟨rfl, G⟩
   | true =>
    try rw [h18] at F
    refine Y.cT F 41 ?_
    refine Y.sl ?_
    refine Y.pcall F (X.w0 rfl) rfl (X.enter (F := 16) rfl (X.kc (.func (.func 16) #[] #[]) rfl) rfl (enters_of Try.func16 (by kernel_rfl) rfl _)) (works_any w17) ?_
    clear F ac
    rintro e w63 ⟨rfl, g⟩
    refine ⟨_, rfl, ?_⟩
    intro ac F
    replace G := G.trans g
    replace hC := hC.gr g
    replace hPP := hPP.gr g
    replace hXX := hXX.gr g
    replace hl := hl.gr g
    clear g
    refine Y.pv F (X.assign rfl (F.ev 42 (.bool true))) ?_;clear F ac;intro ac F
    refine Y.nt F [(6, .bool true)] ?_;clear F ac;intro ac F
    refine Y.ret ?_
    refine X.thenR ?_
    exact Y.ret0 (v := .bool true) F (Y.r1 F) ⟨rfl, G⟩
  | true =>
   try rw [h14] at F
   have h14p : ((30 : Int) < xs.length) := of_decide_eq_true h14
   refine Y.p2 F 7 38 true fun ac F=>Y.pv F (X.pickT rfl (F.ev 38 (.bool true)) (X.kc (.bool true) rfl)) ?_;clear F ac;intro ac F
   refine Y.nt F [(1, .slice a xs.length c), (3, Vp w.heap.size), (7, .slice la9 E.length lc9), (8, Vi cost), (41, .bool true)] ?_;clear F ac;intro ac F
   refine Y.cT F 41 ?_
   refine Y.sl ?_
   refine Y.pcall F (X.w0 rfl) rfl (X.enter (F := 16) rfl (X.kc (.func (.func 16) #[] #[]) rfl) rfl (enters_of Try.func16 (by kernel_rfl) rfl _)) (works_any w12) ?_
   clear F ac
   rintro e w64 ⟨rfl, g⟩
   refine ⟨_, rfl, ?_⟩
   intro ac F
   replace G := G.trans g
   replace hC := hC.gr g
   replace hPP := hPP.gr g
   replace hXX := hXX.gr g
   replace hl := hl.gr g
   clear g
   refine Y.pv F (X.assign rfl (F.ev 42 (.bool true))) ?_;clear F ac;intro ac F
   refine Y.nt F [(6, .bool true)] ?_;clear F ac;intro ac F
   refine Y.ret ?_
   refine X.thenR ?_
   exact Y.ret0 (v := .bool true) F (Y.r1 F) ⟨rfl, G⟩
 | true =>
  try rw [h13] at F
  refine Y.p3 F 2 33 true fun ac F=>Y.pv2 F (X.pickT rfl (F.ev 33 (.bool true)) (X.kc (.bool true) rfl)) (fun _ F=>X.move rfl (F.ev 37 (.bool true))) fun ac F=>Y.p2 F 7 38 true fun ac F=>Y.pv F (X.pickT rfl (F.ev 38 (.bool true)) (X.kc (.bool true) rfl)) ?_;clear F ac;intro ac F
  refine Y.nt F [(1, .slice a xs.length c), (3, Vp w.heap.size), (7, .slice la9 E.length lc9), (8, Vi cost), (41, .bool true)] ?_;clear F ac;intro ac F
  refine Y.cT F 41 ?_
  refine Y.sl ?_
  refine Y.pcall F (X.w0 rfl) rfl (X.enter (F := 16) rfl (X.kc (.func (.func 16) #[] #[]) rfl) rfl (enters_of Try.func16 (by kernel_rfl) rfl _)) (works_any w12) ?_
  clear F ac
  rintro e w65 ⟨rfl, g⟩
  refine ⟨_, rfl, ?_⟩
  intro ac F
  replace G := G.trans g
  replace hC := hC.gr g
  replace hPP := hPP.gr g
  replace hXX := hXX.gr g
  replace hl := hl.gr g
  clear g
  refine Y.pv F (X.assign rfl (F.ev 42 (.bool true))) ?_;clear F ac;intro ac F
  refine Y.nt F [(6, .bool true)] ?_;clear F ac;intro ac F
  refine Y.ret ?_
  refine X.thenR ?_
  exact Y.ret0 (v := .bool true) F (Y.r1 F) ⟨rfl, G⟩
end
section
open Go.ChangeShapes Go.WideShapes Go.RowKit Go.Deep Go.Joins
section
variable {H : Type} {enc : TypeId × Value → H} {w : World} {base : Nat} {spare : Nat → Bool} {held : Bool}
theorem Try.bytes49 : Try.prog.bytesOf 49 = 32 := by kernel_rfl
theorem Try.cells49 : Try.prog.cellsOf 49 = 2 := by kernel_rfl
theorem open_s34c {fuel : Nat} {v : Value} {x : DataW H × List MemPlace} (h : DataW.trod enc Try.prog w base spare held fuel 34 [v] = some x) (hw : Wt 34 x.1) : ∃ a c xs, v = .slice a (List.length xs) c ∧ Ints w a (List.length xs) xs ∧ List.length xs ≤ c := by
  obtain ⟨a, c, xs, rfl, hI⟩ := open_s34 h hw
  refine ⟨a, c, xs, rfl, hI, ?_⟩
  rcases open_slice Try.underlying34 h with ⟨hcs, _⟩ | ⟨a', len, cap, m, n, D, Pl, hcs, hb, hl, _⟩
  · have h1 := congrArg (fun l : List Value => l[0]?) hcs
    simp at h1
    obtain ⟨_, h2, _⟩ := h1
    rw [h2]; exact Nat.zero_le _
  · simp at hcs; omega
theorem open_s45 {fuel : Nat} {v : Value} {x : DataW H × List MemPlace} (h : DataW.trod enc Try.prog w base spare held fuel 45 [v] = some x) (hw : Wt 45 x.1) : ∃ a c E, v = .slice a (List.length E) c ∧ LfAt w a E ∧ List.length E ≤ 1152921504606846975 := by
  rcases open_slice_pairs Try.underlying45 Try.underlying49 Try.cells49 rfl rfl Try.cells34 Try.cells3 h with ⟨hcs, _⟩ | ⟨a, len, cap, m, n, V0, V1, D0, D1, P0, P1, hcs, hb, hl, hcm, hmm, hx, hi⟩
  · simp at hcs
    exact ⟨none, 0, [], hcs, LfAt.nil _ _, by decide⟩
  · simp at hcs
    subst hcs
    have hlm : len ≤ m := by rw [hmm]; split <;> omega
    have hw1 := hw
    rw [hx] at hw1
    have hlen := hw1.len Try.underlying45
    rw [Try.bytes49] at hlen
    simp only [List.length_map, List.length_range, reachBytes] at hlen
    obtain ⟨C, hC1, hC2⟩ := list_of (P := fun j (x : LfE) => w.cell? (a.add (j * 2)) = some (.slice x.b.a x.b.xs.length x.b.c) ∧ w.cell? (a.add (j * 2 + 1)) = some (.int .i64 x.why) ∧ Ints w x.b.a x.b.xs.length x.b.xs ∧ x.b.xs.length ≤ x.b.c) ⟨⟨[], none, 0⟩, 0⟩ len (fun j hj => by
      obtain ⟨h0, h1, t0, t1⟩ := hi j (by omega)
      have hwj : Wt 49 (.agg [D0 j, D1 j]) := hw1.elem Try.underlying45 (List.mem_map.2 ⟨j, List.mem_range.2 hj, rfl⟩)
      have hw0 : Wt 34 (D0 j) := hwj.field Try.underlying49 (j := 0) (ft := 34) (by simp) (by simp)
      obtain ⟨a', c', xs, e0, hI, hc⟩ := open_s34c t0 hw0
      obtain ⟨y, e1, _⟩ := DataW.trod_int Try.underlying3 t1
      simp at e1
      rw [e0] at h0
      rw [e1] at h1
      exact ⟨⟨⟨xs, a', c'⟩, y⟩, h0, h1, hI, hc⟩)
    subst hC1
    refine ⟨some a, cap, C, rfl, fun i x hx => ?_, by omega⟩
    have hi2 := (List.getElem?_eq_some_iff.1 hx).1
    obtain ⟨k1, k2, k3, k4⟩ := hC2 i hi2
    rw [hx] at k1 k2 k3 k4
    exact ⟨a, rfl, k1, by rw [Addr.add_add]; exact k2, k3, k4⟩
end
end
section
open Go.ChangeShapes Go.WideShapes Go.RowKit Go.Deep Go.Joins
section
variable {H : Type} {enc : TypeId × Value → H} {w : World} {base : Nat} {spare : Nat → Bool} {held : Bool}
set_option maxRecDepth 100000 in
theorem open_cm {r : Reach} {b0 : Nat} {v : Value} {d : DataW H} {p : List MemPlace} (hv : Value.okWide Try.prog w r b0 71 v) (h : DataW.Trod enc Try.prog w base spare held 71 v d p) (hw : Wt 71 d) :
    ∃ (a : Option Addr) (c : Nat) (E : List LfE) (y : Int), v = .agg #[.slice a (List.length E) c, .int .i64 y] ∧ LfAt w a E ∧ List.length E ≤ 1152921504606846975 := by
  obtain ⟨v0, v1, y0, y1, n, rfl, rfl, _, h0, h1⟩ := open_agg2 Try.underlying71 (by kernel_rfl) (by kernel_rfl) hv h
  obtain ⟨a, c, E, rfl, hL, hE⟩ := open_s45 h0 (hw.field Try.underlying71 (j := 0) (ft := 45) (by simp) (by simp))
  obtain ⟨y, e1, _⟩ := DataW.trod_int Try.underlying3 h1
  simp at e1
  subst e1
  exact ⟨a, c, E, y, rfl, hL, hE⟩
end
end
end Go.Proofs.Ytodedneanlekdaa
