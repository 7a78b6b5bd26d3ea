/- Contract: the law about Repair. -/
import Derived.Test.YtodedneanlekdaaBd15
import Derived.Test.YtodedneanlekdaaBd14
namespace Go.Proofs.Ytodedneanlekdaa
set_option linter.unusedSimpArgs false
set_option linter.unusedVariables false
open Go.RowKit

theorem isH_of {p : Pb} {h : Int} (k : 0 ≤ h ∧ h < p.nh) : isH p h = true := by unfold isH; simp [k]
set_option maxRecDepth 100000 in
set_option maxHeartbeats 2000000 in
theorem repairs_any (p : Pb) (ta ha ba la : Option Addr) (tc hc bc lc : Nat) (a : Option Addr) (c : Nat) (xs : List Int) (hq9 : Int) (w : World) (hP : PbAt w p ta ha ba la tc hc bc lc) (hX : Ints w a xs.length xs) :
  Calls Try.prog 10 #[.agg #[.slice ta p.nt tc, .slice ha p.nh hc, .slice ba p.nb bc, .slice la p.nl lc], .slice a xs.length c, Vi hq9] w fun e w' => e = .returned (.bool true) ∧ Gr w w' := by
 have G := Gr.refl w
 have hPP := hP
 have hXX := hX
 have hlx := hX.lt
 have hPn := hP.len
 obtain ⟨hPn1, hPn2, -, -⟩ := hPn
 refine Y.calls 107 Try.func10 rfl rfl ?_
 intro ac F0
 have F : Fr ac 107 [(0, .agg #[.slice ta p.nt tc, .slice ha p.nh hc, .slice ba p.nb bc, .slice la p.nl lc]), (1, .slice a xs.length c), (2, Vi hq9)] := F0.sub _
 clear F0
 refine Y.sl ?_
 have hgs3 : w.heap.size ≤ w.heap.size := G.size
 refine Y.pv F (X.box rfl (F.ev 0 (.agg #[.slice ta p.nt tc, .slice ha p.nh hc, .slice ba p.nb bc, .slice la p.nl lc])) X.bx) ?_;clear F ac;intro ac F
 have hgs5 : w.heap.size ≤ w.heap.size := G.size
 obtain ⟨w6, hw_, g, hb, hbl, hC2⟩ := Y.bxd (RCells.nil w) #[.slice ta p.nt tc, .slice ha p.nh hc, .slice ba p.nb bc, .slice la p.nl lc] 27;rw [hw_];clear hw_
 replace G := G.trans g
 have hC := hC2
 clear hC2
 replace hPP := hPP.gr g
 replace hXX := hXX.gr g
 have hsz4 := hbl
 clear g hb hbl
 refine Y.pv F (X.assign rfl (X.kc (.bool false) rfl)) ?_;clear F ac;intro ac F
 refine Y.nt F [(1, .slice a xs.length c), (2, Vi hq9), (3, Vp w.heap.size)] ?_;clear F ac;intro ac F
 refine Y.seq ?_
 refine Y.sl ?_
 refine Y.pv F (X.load rfl (F.ev 3 (Vp w.heap.size)) (X.ldN (Try.agg27 _) (Try.siz27 _) (Y.atz (⟨w.heap.size, 0, none⟩) (Y.AtFrom.cons (hC.at 0 rfl) (Y.AtFrom.cons (hC.at 1 rfl) (Y.AtFrom.cons (hC.at 2 rfl) (Y.AtFrom.cons (hC.at 3 rfl) (Y.AtFrom.nil _ _ _)))))))) ?_;clear F ac;intro ac F
 refine Y.pc F 21 (X.a1 (F.ev 16 (.agg #[.slice ta p.nt tc, .slice ha p.nh hc, .slice ba p.nb bc, .slice la p.nl lc]))) Try.func21 (large_any p ta ha ba la tc hc bc lc w6 hPP) ?_
 clear F ac
 rintro e w7 ⟨rfl, g⟩
 refine ⟨_, rfl, ?_⟩
 intro ac F
 replace G := G.trans g
 replace hC := hC.gr g
 replace hPP := hPP.gr g
 replace hXX := hXX.gr g
 clear g
 refine Y.pv F (X.move rfl (F.ev 17 (.bool (largeB p)))) ?_;clear F ac;intro ac F
 cases h8 : largeB p with
 | false =>
  try rw [h8] at F
  have hz : SmlP p := large_sz h8
  have hlg := large_pl h8
  refine Y.pg F 2 18 false (X.move rfl (F.ev 1 (.slice a xs.length c))) ?_;clear F ac;intro ac F
  refine Y.pg F 2 18 false (X.len1 Try.underlying34 rfl (F.ev 19 (.slice a xs.length c))) ?_;clear F ac;intro ac F
  refine Y.pg F 2 18 false (X.binop rfl (F.ev 20 (Vi xs.length)) (X.kc (Vi 30) rfl) (X.gtrI Try.underlying3 rfl)) ?_;clear F ac;intro ac F
  refine Y.pv F (X.pickF rfl (F.ev 18 (.bool false)) (F.ev 21 (.bool (decide ((30 : Int) < xs.length))))) ?_;clear F ac;intro ac F
  refine Y.nt F [(1, .slice a xs.length c), (2, Vi hq9), (3, Vp w.heap.size), (22, .bool (decide ((30 : Int) < xs.length)))] ?_;clear F ac;intro ac F
  cases h9 : decide ((30 : Int) < xs.length) with
  | false =>
   try rw [h9] at F
   have h9p : ¬ ((30 : Int) < xs.length) := of_decide_eq_false h9
   refine Y.condF (F.ev 22 (.bool false)) ?_
   refine Y.skip ?_
   refine X.thenN ?_
   refine Y.sl ?_
   refine Y.pv F (X.load rfl (F.ev 3 (Vp w.heap.size)) (X.ldN (Try.agg27 _) (Try.siz27 _) (Y.atz (⟨w.heap.size, 0, none⟩) (Y.AtFrom.cons (hC.at 0 rfl) (Y.AtFrom.cons (hC.at 1 rfl) (Y.AtFrom.cons (hC.at 2 rfl) (Y.AtFrom.cons (hC.at 3 rfl) (Y.AtFrom.nil _ _ _)))))))) ?_;clear F ac;intro ac F
   refine Y.pc F 17 (X.a1 (F.ev 25 (.agg #[.slice ta p.nt tc, .slice ha p.nh hc, .slice ba p.nb bc, .slice la p.nl lc]))) Try.func17 (copy_any p ta ha ba la tc hc bc lc w7 hPP hz) ?_
   clear F ac
   rintro e w11 ⟨ta10, ha10, ba10, la10, tc10, hc10, bc10, lc10, rfl, hO10, g⟩
   have hQ10 := hO10.at hz
   refine ⟨_, rfl, ?_⟩
   intro ac F
   replace G := G.trans g
   replace hC := hC.gr g
   replace hPP := hPP.gr g
   replace hXX := hXX.gr g
   clear g
   refine Y.pv F (X.move rfl (F.ev 1 (.slice a xs.length c))) ?_;clear F ac;intro ac F
   refine Y.pc F 33 (X.a1 (F.ev 27 (.slice a xs.length c))) Try.func33 (ints_any a c xs w11 hXX (by omega)) ?_
   clear F ac
   rintro e w13 ⟨xa12, xc12, rfl, hO12, g⟩
   have hI12 := hO12.intsS (by omega)
   refine ⟨_, rfl, ?_⟩
   intro ac F
   replace G := G.trans g
   replace hC := hC.gr g
   replace hPP := hPP.gr g
   replace hXX := hXX.gr g
   replace hQ10 := hQ10.gr g
   replace hO10 := hO10.gr g
   clear g
   refine Y.pv F (X.move rfl (F.ev 2 (Vi hq9))) ?_;clear F ac;intro ac F
   refine Y.pc F 41 (X.a3 (F.ev 26 (.agg #[.slice ta10 p.nt tc10, .slice ha10 p.nh hc10, .slice ba10 p.nb bc10, .slice la10 p.nl lc10])) (F.ev 28 (.slice xa12 xs.length xc12)) (F.ev 29 (Vi hq9))) Try.func41 (repair_any p ta10 ha10 ba10 la10 tc10 hc10 bc10 lc10 xa12 xc12 xs hq9 w13 hQ10 hI12) ?_
   clear F ac
   rintro e w15 ⟨ra14, rc14, rfl, hI14, -, g⟩
   refine ⟨_, rfl, ?_⟩
   intro ac F
   replace G := G.trans g
   replace hC := hC.gr g
   replace hPP := hPP.gr g
   replace hXX := hXX.gr g
   replace hQ10 := hQ10.gr g
   replace hO10 := hO10.gr g
   replace hI12 := hI12.gr g
   clear g
   refine Y.pv4 F (X.move rfl (F.ev 30 (.tuple #[.slice ra14 ((repR p xs hq9).1.length) rc14, Vi ((repR p xs hq9).2.1), Vi ((repR p xs hq9).2.2)]))) (fun _ F=>X.extract rfl (F.ev 24 (.tuple #[.slice ra14 ((repR p xs hq9).1.length) rc14, Vi ((repR p xs hq9).2.1), Vi ((repR p xs hq9).2.2)])) rfl) (fun _ F=>X.extract rfl (F.ev 24 (.tuple #[.slice ra14 ((repR p xs hq9).1.length) rc14, Vi ((repR p xs hq9).2.1), Vi ((repR p xs hq9).2.2)])) rfl) (fun _ F=>X.extract rfl (F.ev 24 (.tuple #[.slice ra14 ((repR p xs hq9).1.length) rc14, Vi ((repR p xs hq9).2.1), Vi ((repR p xs hq9).2.2)])) rfl) ?_;clear F ac;intro ac F
   refine Y.pv3 F (X.assign rfl (F.ev 31 (.slice ra14 ((repR p xs hq9).1.length) rc14))) (fun _ F=>X.assign rfl (F.ev 32 (Vi ((repR p xs hq9).2.1)))) (fun _ F=>X.assign rfl (F.ev 33 (Vi ((repR p xs hq9).2.2)))) ?_;clear F ac;intro ac F
   refine Y.nt F [(1, .slice a xs.length c), (2, Vi hq9), (3, Vp w.heap.size), (7, .slice ra14 ((repR p xs hq9).1.length) rc14), (8, Vi ((repR p xs hq9).2.1)), (9, Vi ((repR p xs hq9).2.2))] ?_;clear F ac;intro ac F
   refine Y.sl ?_
   refine Y.pv3 F (X.load rfl (F.ev 3 (Vp w.heap.size)) (X.ldN (Try.agg27 _) (Try.siz27 _) (Y.atz (⟨w.heap.size, 0, none⟩) (Y.AtFrom.cons (hC.at 0 rfl) (Y.AtFrom.cons (hC.at 1 rfl) (Y.AtFrom.cons (hC.at 2 rfl) (Y.AtFrom.cons (hC.at 3 rfl) (Y.AtFrom.nil _ _ _)))))))) (fun _ F=>X.move rfl (F.ev 1 (.slice a xs.length c))) (fun _ F=>X.move rfl (F.ev 2 (Vi hq9))) ?_;clear F ac;intro ac F
   refine Y.pc F 42 (X.a3 (F.ev 35 (.agg #[.slice ta p.nt tc, .slice ha p.nh hc, .slice ba p.nb bc, .slice la p.nl lc])) (F.ev 36 (.slice a xs.length c)) (F.ev 37 (Vi hq9))) Try.func42 (repair2_any p ta ha ba la tc hc bc lc a c xs hq9 hlg w15 hPP hXX) ?_
   clear F ac
   rintro e w17 ⟨ra16, rc16, rfl, hI16, g⟩
   refine ⟨_, rfl, ?_⟩
   intro ac F
   replace G := G.trans g
   replace hC := hC.gr g
   replace hPP := hPP.gr g
   replace hXX := hXX.gr g
   replace hQ10 := hQ10.gr g
   replace hO10 := hO10.gr g
   replace hI12 := hI12.gr g
   replace hI14 := hI14.gr g
   clear g
   refine Y.pv4 F (X.move rfl (F.ev 38 (.tuple #[.slice ra16 ((repR p xs hq9).1.length) rc16, Vi ((repR p xs hq9).2.1), Vi ((repR p xs hq9).2.2)]))) (fun _ F=>X.extract rfl (F.ev 34 (.tuple #[.slice ra16 ((repR p xs hq9).1.length) rc16, Vi ((repR p xs hq9).2.1), Vi ((repR p xs hq9).2.2)])) rfl) (fun _ F=>X.extract rfl (F.ev 34 (.tuple #[.slice ra16 ((repR p xs hq9).1.length) rc16, Vi ((repR p xs hq9).2.1), Vi ((repR p xs hq9).2.2)])) rfl) (fun _ F=>X.extract rfl (F.ev 34 (.tuple #[.slice ra16 ((repR p xs hq9).1.length) rc16, Vi ((repR p xs hq9).2.1), Vi ((repR p xs hq9).2.2)])) rfl) ?_;clear F ac;intro ac F
   refine Y.pv3 F (X.assign rfl (F.ev 39 (.slice ra16 ((repR p xs hq9).1.length) rc16))) (fun _ F=>X.assign rfl (F.ev 40 (Vi ((repR p xs hq9).2.1)))) (fun _ F=>X.assign rfl (F.ev 41 (Vi ((repR p xs hq9).2.2)))) ?_;clear F ac;intro ac F
   refine Y.nt F [(1, .slice a xs.length c), (2, Vi hq9), (3, Vp w.heap.size), (7, .slice ra14 ((repR p xs hq9).1.length) rc14), (8, Vi ((repR p xs hq9).2.1)), (9, Vi ((repR p xs hq9).2.2)), (10, .slice ra16 ((repR p xs hq9).1.length) rc16), (11, Vi ((repR p xs hq9).2.1)), (12, Vi ((repR p xs hq9).2.2))] ?_;clear F ac;intro ac F
   refine Y.seq ?_
   refine Y.sl ?_
   refine Y.pv2 F (X.move rfl (F.ev 7 (.slice ra14 ((repR p xs hq9).1.length) rc14))) (fun _ F=>X.move rfl (F.ev 10 (.slice ra16 ((repR p xs hq9).1.length) rc16))) ?_;clear F ac;intro ac F
   refine Y.pc F 24 (X.a2 (F.ev 42 (.slice ra14 ((repR p xs hq9).1.length) rc14)) (F.ev 43 (.slice ra16 ((repR p xs hq9).1.length) rc16))) Try.func24 (by have hq := same_any ra14 ra16 rc14 rc16 ((repR p xs hq9).1) ((repR p xs hq9).1) w17 hI14 hI16; rw [decide_eq_true rfl] at hq; exact hq) ?_
   clear F ac
   rintro e w18 ⟨rfl, g⟩
   refine ⟨_, rfl, ?_⟩
   intro ac F
   replace G := G.trans g
   replace hC := hC.gr g
   replace hPP := hPP.gr g
   replace hXX := hXX.gr g
   replace hQ10 := hQ10.gr g
   replace hO10 := hO10.gr g
   replace hI12 := hI12.gr g
   replace hI14 := hI14.gr g
   replace hI16 := hI16.gr g
   clear g
   refine Y.pv2 F (X.notB rfl (F.ev 44 (.bool true)) rfl) (fun _ F=>X.move rfl (F.ev 45 (.bool false))) ?_;clear F ac;intro ac F
   refine Y.pg F 4 46 false (X.move rfl (F.ev 8 (Vi ((repR p xs hq9).2.1)))) ?_;clear F ac;intro ac F
   refine Y.pg F 4 46 false (X.move rfl (F.ev 11 (Vi ((repR p xs hq9).2.1)))) ?_;clear F ac;intro ac F
   refine Y.pg F 4 46 false (X.binop rfl (F.ev 47 (Vi ((repR p xs hq9).2.1))) (F.ev 48 (Vi ((repR p xs hq9).2.1))) (X.neqI Try.underlying3 (show (((repR p xs hq9).2.1 : Int) != ((repR p xs hq9).2.1)) = false by simp))) ?_;clear F ac;intro ac F
   refine Y.pv2 F (X.pickF rfl (F.ev 46 (.bool false)) (F.ev 49 (.bool false))) (fun _ F=>X.move rfl (F.ev 50 (.bool false))) ?_;clear F ac;intro ac F
   refine Y.pg F 9 51 false (X.move rfl (F.ev 9 (Vi ((repR p xs hq9).2.2)))) ?_;clear F ac;intro ac F
   refine Y.pg F 9 51 false (X.move rfl (F.ev 12 (Vi ((repR p xs hq9).2.2)))) ?_;clear F ac;intro ac F
   refine Y.pg F 9 51 false (X.binop rfl (F.ev 52 (Vi ((repR p xs hq9).2.2))) (F.ev 53 (Vi ((repR p xs hq9).2.2))) (X.neqI Try.underlying31 (show (((repR p xs hq9).2.2 : Int) != ((repR p xs hq9).2.2)) = false by simp))) ?_;clear F ac;intro ac F
   refine Y.pv F (X.pickF rfl (F.ev 51 (.bool false)) (F.ev 54 (.bool false))) ?_;clear F ac;intro ac F
   refine Y.nt F [(1, .slice a xs.length c), (2, Vi hq9), (3, Vp w.heap.size), (7, .slice ra14 ((repR p xs hq9).1.length) rc14), (8, Vi ((repR p xs hq9).2.1)), (9, Vi ((repR p xs hq9).2.2)), (55, .bool false)] ?_;clear F ac;intro ac F
   refine Y.condF (F.ev 55 (.bool false)) ?_
   refine Y.skip ?_
   refine X.thenN ?_
   refine Y.sl ?_
   refine Y.pv2 F (X.load rfl (F.ev 3 (Vp w.heap.size)) (X.ldN (Try.agg27 _) (Try.siz27 _) (Y.atz (⟨w.heap.size, 0, none⟩) (Y.AtFrom.cons (hC.at 0 rfl) (Y.AtFrom.cons (hC.at 1 rfl) (Y.AtFrom.cons (hC.at 2 rfl) (Y.AtFrom.cons (hC.at 3 rfl) (Y.AtFrom.nil _ _ _)))))))) (fun _ F=>X.move rfl (F.ev 1 (.slice a xs.length c))) ?_;clear F ac;intro ac F
   refine Y.pc F 34 (X.a2 (F.ev 57 (.agg #[.slice ta p.nt tc, .slice ha p.nh hc, .slice ba p.nb bc, .slice la p.nl lc])) (F.ev 58 (.slice a xs.length c))) Try.func34 (allowed2_any p ta ha ba la tc hc bc lc a c xs w18 hPP hXX) ?_
   clear F ac
   rintro e w19 ⟨rfl, g⟩
   refine ⟨_, rfl, ?_⟩
   intro ac F
   replace G := G.trans g
   replace hC := hC.gr g
   replace hPP := hPP.gr g
   replace hXX := hXX.gr g
   replace hQ10 := hQ10.gr g
   replace hO10 := hO10.gr g
   replace hI12 := hI12.gr g
   replace hI14 := hI14.gr g
   replace hI16 := hI16.gr g
   clear g
   refine Y.pv4 F (X.move rfl (F.ev 59 (.tuple #[.bool (allowV p xs), Vi (whoE p xs)]))) (fun _ F=>X.extract rfl (F.ev 56 (.tuple #[.bool (allowV p xs), Vi (whoE p xs)])) rfl) (fun _ F=>X.extract rfl (F.ev 56 (.tuple #[.bool (allowV p xs), Vi (whoE p xs)])) rfl) (fun _ F=>X.assign rfl (F.ev 60 (.bool (allowV p xs)))) ?_;clear F ac;intro ac F
   refine Y.pv F (X.assign rfl (F.ev 61 (Vi (whoE p xs)))) ?_;clear F ac;intro ac F
   refine Y.nt F [(1, .slice a xs.length c), (2, Vi hq9), (3, Vp w.heap.size), (7, .slice ra14 ((repR p xs hq9).1.length) rc14), (8, Vi ((repR p xs hq9).2.1)), (9, Vi ((repR p xs hq9).2.2)), (13, .bool (allowV p xs)), (14, Vi (whoE p xs))] ?_;clear F ac;intro ac F
   refine Y.seq ?_
   refine Y.sl ?_
   refine Y.pv3 F (X.move rfl (F.ev 14 (Vi (whoE p xs)))) (fun _ F=>X.binop rfl (F.ev 62 (Vi (whoE p xs))) (X.kc (Vi 0) rfl) (X.neqI Try.underlying31 rfl)) (fun _ F=>X.move rfl (F.ev 63 (.bool ((whoE p xs : Int) != 0)))) ?_;clear F ac;intro ac F
   cases h20 : ((whoE p xs : Int) != 0) with
   | false =>
    try rw [h20] at F
    have h20p : (whoE p xs : Int) = 0 := by simpa using h20
    have hwh : whoE p xs = 0 := by omega
    refine Y.pg F 2 64 false (X.move rfl (F.ev 13 (.bool (allowV p xs)))) ?_;clear F ac;intro ac F
    refine Y.pg F 2 64 false (X.notB rfl (F.ev 65 (.bool (allowV p xs))) rfl) ?_;clear F ac;intro ac F
    refine Y.pv2 F (X.pickF rfl (F.ev 64 (.bool false)) (F.ev 66 (.bool (!(allowV p xs))))) (fun _ F=>X.move rfl (F.ev 67 (.bool (!(allowV p xs))))) ?_;clear F ac;intro ac F
    cases h21 : allowV p xs with
    | false =>
     try rw [h21] at F
     refine Y.ps F 6 68 true ?_;clear F ac;intro ac F
     refine Y.ps F 6 68 true ?_;clear F ac;intro ac F
     refine Y.pv2 F (X.pickT rfl (F.ev 68 (.bool true)) (X.kc (.bool true) rfl)) (fun _ F=>X.move rfl (F.ev 71 (.bool true))) ?_;clear F ac;intro ac F
     refine Y.ps F 10 72 true ?_;clear F ac;intro ac F
     refine Y.ps F 10 72 true ?_;clear F ac;intro ac F
     refine Y.ps F 10 72 true ?_;clear F ac;intro ac F
     refine Y.ps F 10 72 true ?_;clear F ac;intro ac F
     refine Y.ps F 10 72 true ?_;clear F ac;intro ac F
     refine Y.pv F (X.pickT rfl (F.ev 72 (.bool true)) (X.kc (.bool true) rfl)) ?_;clear F ac;intro ac F
     refine Y.nt F [(1, .slice a xs.length c), (2, Vi hq9), (7, .slice ra14 ((repR p xs hq9).1.length) rc14), (8, Vi ((repR p xs hq9).2.1)), (9, Vi ((repR p xs hq9).2.2)), (78, .bool true)] ?_;clear F ac;intro ac F
     refine Y.condT (F.ev 78 (.bool true)) ?_
     refine Y.sl ?_
     refine Y.pcall F (X.w0 rfl) rfl (X.enter (F := 16) rfl (X.kc (.func (.func 16) #[] #[]) rfl) rfl (enters_of Try.func16 (by kernel_rfl) rfl _)) (works_any w19) ?_
     clear F ac
     rintro e w22 ⟨rfl, g⟩
     refine ⟨_, rfl, ?_⟩
     intro ac F
     replace G := G.trans g
     replace hC := hC.gr g
     replace hPP := hPP.gr g
     replace hXX := hXX.gr g
     replace hQ10 := hQ10.gr g
     replace hO10 := hO10.gr g
     replace hI12 := hI12.gr g
     replace hI14 := hI14.gr g
     replace hI16 := hI16.gr g
     clear g
     refine Y.pv F (X.assign rfl (F.ev 79 (.bool true))) ?_;clear F ac;intro ac F
     refine Y.nt F [(6, .bool true)] ?_;clear F ac;intro ac F
     refine Y.ret ?_
     refine X.thenR ?_
     exact Y.ret0 (v := .bool true) F (Y.r1 F) ⟨rfl, G⟩
    | true =>
     try rw [h21] at F
     refine Y.pg F 6 68 false (X.move rfl (F.ev 2 (Vi hq9))) ?_;clear F ac;intro ac F
     refine Y.pg F 6 68 false (X.binop rfl (F.ev 69 (Vi hq9)) (X.kc (Vi 0) rfl) (X.lssI Try.underlying3 rfl)) ?_;clear F ac;intro ac F
     refine Y.pv2 F (X.pickF rfl (F.ev 68 (.bool false)) (F.ev 70 (.bool (decide ((hq9 : Int) < 0))))) (fun _ F=>X.move rfl (F.ev 71 (.bool (decide ((hq9 : Int) < 0))))) ?_;clear F ac;intro ac F
     cases h23 : decide ((hq9 : Int) < 0) with
     | false =>
      try rw [h23] at F
      have h23p : ¬ ((hq9 : Int) < 0) := of_decide_eq_false h23
      refine Y.pg F 10 72 false (X.move rfl (F.ev 2 (Vi hq9))) ?_;clear F ac;intro ac F
      refine Y.pg F 10 72 false (X.field rfl (F.ev 3 (Vp w.heap.size)) (X.fld Try.underlying27 rfl (Try.siz23 _) rfl rfl)) ?_;clear F ac;intro ac F
      refine Y.pg F 10 72 false (X.load rfl (F.ev 74 (.pointer (some ⟨w.heap.size, 1, none⟩))) (X.ld1 (Try.agg23 _) (hC.at 1 rfl))) ?_;clear F ac;intro ac F
      refine Y.pg F 10 72 false (X.len1 Try.underlying23 rfl (F.ev 75 (.slice ha p.nh hc))) ?_;clear F ac;intro ac F
      refine Y.pg F 10 72 false (X.binop rfl (F.ev 73 (Vi hq9)) (F.ev 76 (Vi p.nh)) (X.geqI Try.underlying3 rfl)) ?_;clear F ac;intro ac F
      refine Y.pv F (X.pickF rfl (F.ev 72 (.bool false)) (F.ev 77 (.bool (decide ((p.nh : Int) ≤ hq9))))) ?_;clear F ac;intro ac F
      refine Y.nt F [(1, .slice a xs.length c), (2, Vi hq9), (7, .slice ra14 ((repR p xs hq9).1.length) rc14), (8, Vi ((repR p xs hq9).2.1)), (9, Vi ((repR p xs hq9).2.2)), (78, .bool (decide ((p.nh : Int) ≤ hq9)))] ?_;clear F ac;intro ac F
      cases h24 : decide ((p.nh : Int) ≤ hq9) with
      | false =>
       try rw [h24] at F
       have h24p : ¬ ((p.nh : Int) ≤ hq9) := of_decide_eq_false h24
       refine Y.condF (F.ev 78 (.bool false)) ?_
       refine Y.skip ?_
       refine X.thenN ?_
       refine Y.seq ?_
       refine Y.sg F [(1, .slice a xs.length c), (2, Vi hq9), (7, .slice ra14 ((repR p xs hq9).1.length) rc14), (8, Vi ((repR p xs hq9).2.1)), (9, Vi ((repR p xs hq9).2.2)), (15, Vi 0)] (Y.pv F (X.assign rfl (X.kc (Vi 0) rfl)) fun ac F=>Y.fin F) ?_;clear F ac;intro ac F
       refine Y.block ?_
       refine Y.loop (fun me_ ac wr => ∃ (k : Nat), me_ = xs.length - k ∧ Only (fun b => False) w19 wr ∧ k ≤ xs.length ∧ usedN xs hq9 k = false ∧ Fr ac 107 [(1, .slice a xs.length c), (2, Vi hq9), (7, .slice ra14 ((repR p xs hq9).1.length) rc14), (8, Vi ((repR p xs hq9).2.1)), (9, Vi ((repR p xs hq9).2.2)), (15, Vi k)]) _ ⟨0, rfl, Only.refl _ _, Nat.zero_le _, rfl, F.sub _⟩ ?_
       have hPPB1 := hPP
       have hXXB1 := hXX
       have hQ10B1 := hQ10
       have hO10B1 := hO10
       have hI12B1 := hI12
       have hI14B1 := hI14
       have hI16B1 := hI16
       have GB1 := G
       have hCB1 := hC
       clear F ac
       intro me_ ac w25 hI
       obtain ⟨k, rfl, hO1, hk, hno, F⟩ := hI
       replace G := GB1.trans (hO1.gr (fun _ _ h => h))
       replace hPP := hPPB1.gr (hO1.gr (fun _ _ h => h))
       replace hXX := hXXB1.gr (hO1.gr (fun _ _ h => h))
       replace hQ10 := hQ10B1.gr (hO1.gr (fun _ _ h => h))
       replace hO10 := hO10B1.gr (hO1.gr (fun _ _ h => h))
       replace hI12 := hI12B1.gr (hO1.gr (fun _ _ h => h))
       replace hI14 := hI14B1.gr (hO1.gr (fun _ _ h => h))
       replace hI16 := hI16B1.gr (hO1.gr (fun _ _ h => h))
       replace hC := (RCells.cons (hO1.cell (hCB1.at 0 rfl) (fun h => h)) (RCells.cons (hO1.cell (hCB1.at 1 rfl) (fun h => h)) (RCells.cons (hO1.cell (hCB1.at 2 rfl) (fun h => h)) (RCells.cons (hO1.cell (hCB1.at 3 rfl) (fun h => h)) (RCells.nil _)))))
       refine Y.seq ?_
       refine Y.sg F [(1, .slice a xs.length c), (2, Vi hq9), (7, .slice ra14 ((repR p xs hq9).1.length) rc14), (8, Vi ((repR p xs hq9).2.1)), (9, Vi ((repR p xs hq9).2.2)), (15, Vi k), (83, .bool (decide ((k : Int) < xs.length)))] (Y.pv F (X.move rfl (F.ev 15 (Vi k))) fun ac F=>Y.pv F (X.move rfl (F.ev 1 (.slice a xs.length c))) fun ac F=>Y.pv F (X.len1 Try.underlying34 rfl (F.ev 81 (.slice a xs.length c))) fun ac F=>Y.pv F (X.binop rfl (F.ev 80 (Vi k)) (F.ev 82 (Vi xs.length)) (X.lssI Try.underlying3 rfl)) fun ac F=>Y.fin F) ?_;clear F ac;intro ac F
       cases h26 : decide ((k : Int) < xs.length) with
       | false =>
        try rw [h26] at F
        have h26p : ¬ ((k : Int) < xs.length) := of_decide_eq_false h26
        obtain rfl : k = xs.length := by omega
        have hst := rep_stay hwh (isH_of (p := p) (by omega)) h21 hno
        replace F : Fr ac 107 [(1, .slice a xs.length c), (2, Vi hq9), (7, .slice ra14 xs.length rc14), (8, Vi 0), (9, Vi 0), (15, Vi xs.length), (83, .bool false)] := by rw [hst] at F; exact F
        replace hI14 : Ints w25 ra14 xs.length xs := by rw [hst] at hI14; exact hI14
        replace hI16 : Ints w25 ra16 xs.length xs := by rw [hst] at hI16; exact hI16
        refine Y.condF (F.ev 83 (.bool false)) ?_
        refine Y.exit ?_
        refine X.thenX (X.thenX (X.blockX (X.thenN ?_)))
        refine Y.sl ?_
        refine Y.pv F (X.move rfl (F.ev 9 (Vi 0))) ?_;clear F ac;intro ac F
        refine Y.pval F (X.w0 rfl) rfl (X.binop rfl (F.ev 93 (Vi 0)) (X.kc (Vi 0) rfl) (X.eqlI Try.underlying31 (show ((0 : Int) == 0) = true by simp))) ?_;clear F ac;intro ac F
        refine Y.pv F (X.move rfl (F.ev 94 (.bool true))) ?_;clear F ac;intro ac F
        refine Y.pg F 2 95 true (X.move rfl (F.ev 8 (Vi 0))) ?_;clear F ac;intro ac F
        refine Y.pg F 2 95 true (X.binop rfl (F.ev 96 (Vi 0)) (X.kc (Vi 0) rfl) (X.eqlI Try.underlying3 (show ((0 : Int) == 0) = true by simp))) ?_;clear F ac;intro ac F
        refine Y.pv2 F (X.pickT rfl (F.ev 95 (.bool true)) (F.ev 97 (.bool true))) (fun _ F=>X.move rfl (F.ev 98 (.bool true))) ?_;clear F ac;intro ac F
        refine Y.pg F 6 99 true (X.move rfl (F.ev 7 (.slice ra14 xs.length rc14))) ?_;clear F ac;intro ac F
        refine Y.pg F 6 99 true (X.move rfl (F.ev 1 (.slice a xs.length c))) ?_;clear F ac;intro ac F
        refine Y.pcall F (X.w1 rfl (F.yl (j := 6) (d := 99) (b := true) rfl (by kernel_rfl))) rfl (X.enter (F := 24) rfl (X.kc (.func (.func 24) #[] #[]) rfl) (X.a2 (F.ev 100 (.slice ra14 xs.length rc14)) (F.ev 101 (.slice a xs.length c))) (enters_of Try.func24 (by kernel_rfl) rfl _)) (by have hq := same_any ra14 a rc14 c xs xs w25 hI14 hXX; rw [decide_eq_true rfl] at hq; exact hq) ?_
        clear F ac
        rintro e w27 ⟨rfl, g⟩
        refine ⟨_, rfl, ?_⟩
        intro ac F
        replace G := G.trans g
        replace hC := hC.gr g
        replace hPP := hPP.gr g
        replace hXX := hXX.gr g
        replace hQ10 := hQ10.gr g
        replace hO10 := hO10.gr g
        replace hI12 := hI12.gr g
        replace hI14 := hI14.gr g
        replace hI16 := hI16.gr g
        clear g
        refine Y.pv2 F (X.pickT rfl (F.ev 99 (.bool true)) (F.ev 102 (.bool true))) (fun _ F=>X.move rfl (F.ev 103 (.bool true))) ?_;clear F ac;intro ac F
        refine Y.pcall F (X.w1 rfl (F.yl (j := 11) (d := 104) (b := true) rfl (by kernel_rfl))) rfl (X.enter (F := 16) rfl (X.kc (.func (.func 16) #[] #[]) rfl) rfl (enters_of Try.func16 (by kernel_rfl) rfl _)) (works_any w27) ?_
        clear F ac
        rintro e w28 ⟨rfl, g⟩
        refine ⟨_, rfl, ?_⟩
        intro ac F
        replace G := G.trans g
        replace hC := hC.gr g
        replace hPP := hPP.gr g
        replace hXX := hXX.gr g
        replace hQ10 := hQ10.gr g
        replace hO10 := hO10.gr g
        replace hI12 := hI12.gr g
        replace hI14 := hI14.gr g
        replace hI16 := hI16.gr g
        clear g
        refine Y.pv2 F (X.pickT rfl (F.ev 104 (.bool true)) (F.ev 105 (.bool true))) (fun _ F=>X.assign rfl (F.ev 106 (.bool true))) ?_;clear F ac;intro ac F
        refine Y.nt F [(6, .bool true)] ?_;clear F ac;intro ac F
        refine Y.ret ?_
        exact Y.ret0 (v := .bool true) F (Y.r1 F) ⟨rfl, G⟩
       | true =>
        try rw [h26] at F
        have h26p : ((k : Int) < xs.length) := of_decide_eq_true h26
        refine Y.condT (F.ev 83 (.bool true)) ?_
        refine Y.skip ?_
        refine X.thenN ?_
        refine Y.seq ?_
        refine Y.block ?_
        refine Y.sl ?_
        refine Y.pv2 F (X.move rfl (F.ev 1 (.slice a xs.length c))) (fun _ F=>X.move rfl (F.ev 15 (Vi k))) ?_;clear F ac;intro ac F
        obtain ⟨pd29, pe29, -, pc29⟩ := hXX.at (j := k) (by omega)
        subst pe29
        replace hC := hC.append (show RCells w25 ([(pd29.add k, Vi (xs[k]?.getD 0))]) from (RCells.cons pc29 (RCells.nil _)))
        clear pc29
        refine Y.pval F (X.w0 rfl) rfl (X.index rfl (F.ev 86 (.slice (some pd29) xs.length c)) (F.ev 87 (Vi k)) (X.idx (k := k) Try.underlying34 (Try.siz3 _) (by omega) (by omega) (by rw [Nat.mul_one]))) ?_;clear F ac;intro ac F
        refine Y.pv3 F (X.load rfl (F.ev 88 (.pointer (some (pd29.add k)))) (X.ld1 (Try.agg3 _) (hC.at 4 rfl))) (fun _ F=>X.move rfl (F.ev 2 (Vi hq9))) (fun _ F=>X.binop rfl (F.ev 89 (Vi (xs[k]?.getD 0))) (F.ev 90 (Vi hq9)) (X.eqlI Try.underlying3 rfl)) ?_;clear F ac;intro ac F
        refine Y.nt F [(1, .slice (some pd29) xs.length c), (2, Vi hq9), (7, .slice ra14 ((repR p xs hq9).1.length) rc14), (8, Vi ((repR p xs hq9).2.1)), (9, Vi ((repR p xs hq9).2.2)), (15, Vi k), (91, .bool ((xs[k]?.getD 0 : Int) == hq9))] ?_;clear F ac;intro ac F
        cases h30 : ((xs[k]?.getD 0 : Int) == hq9) with
        | false =>
         try rw [h30] at F
         have h30p : ¬ (xs[k]?.getD 0 : Int) = hq9 := by simpa using h30
         have hne9 : ¬ xs[k]?.getD 0 = hq9 := by simpa using h30p
         refine Y.condF (F.ev 91 (.bool false)) ?_
         refine Y.skip ?_
         refine X.blockN (X.thenN ?_)
         refine Y.lg F [(1, .slice (some pd29) xs.length c), (2, Vi hq9), (7, .slice ra14 ((repR p xs hq9).1.length) rc14), (8, Vi ((repR p xs hq9).2.1)), (9, Vi ((repR p xs hq9).2.2)), (15, Vi ((k : Int) + 1))] (by
          refine Y.pv F (X.move rfl (F.ev 15 (Vi k))) fun ac F=>?_
          refine Y.pv F (X.binop rfl (F.ev 84 (Vi k)) (X.kc (Vi 1) rfl) (X.addI Try.underlying3 rfl (by omega) (by omega))) fun ac F=>?_
          refine Y.pv F (X.assign rfl (F.ev 85 (Vi ((k : Int) + 1)))) fun ac F=>?_
          exact Y.fin F) ?_;clear F ac;intro ac F
         refine ⟨_, ?_, k + 1, rfl, hO1, by omega, usn_no hno (fun e => hne9 e.symm), F.sub _⟩
         omega
        | true =>
         try rw [h30] at F
         have h30p : (xs[k]?.getD 0 : Int) = hq9 := by simpa using h30
         refine Y.condT (F.ev 91 (.bool true)) ?_
         refine Y.sl ?_
         refine Y.pcall F (X.w0 rfl) rfl (X.enter (F := 16) rfl (X.kc (.func (.func 16) #[] #[]) rfl) rfl (enters_of Try.func16 (by kernel_rfl) rfl _)) (works_any w25) ?_
         clear F ac
         rintro e w31 ⟨rfl, g⟩
         refine ⟨_, rfl, ?_⟩
         intro ac F
         replace G := G.trans g
         replace hC := hC.gr g
         replace hO1 := hO1.thenGr g
         replace hPP := hPP.gr g
         replace hXX := hXX.gr g
         replace hQ10 := hQ10.gr g
         replace hO10 := hO10.gr g
         replace hI12 := hI12.gr g
         replace hI14 := hI14.gr g
         replace hI16 := hI16.gr g
         clear g
         refine Y.pv F (X.assign rfl (F.ev 92 (.bool true))) ?_;clear F ac;intro ac F
         refine Y.nt F [(6, .bool true)] ?_;clear F ac;intro ac F
         refine Y.ret ?_
         refine X.blockR (X.thenR (X.thenR (X.blockR (X.thenR ?_))))
         exact Y.ret0 (v := .bool true) F (Y.r1 F) ⟨rfl, G⟩
      | true =>
       try rw [h24] at F
       have h24p : ((p.nh : Int) ≤ hq9) := of_decide_eq_true h24
       refine Y.condT (F.ev 78 (.bool true)) ?_
       refine Y.sl ?_
       refine Y.pcall F (X.w0 rfl) rfl (X.enter (F := 16) rfl (X.kc (.func (.func 16) #[] #[]) rfl) rfl (enters_of Try.func16 (by kernel_rfl) rfl _)) (works_any w19) ?_
       clear F ac
       rintro e w32 ⟨rfl, g⟩
       refine ⟨_, rfl, ?_⟩
       intro ac F
       replace G := G.trans g
       replace hC := hC.gr g
       replace hPP := hPP.gr g
       replace hXX := hXX.gr g
       replace hQ10 := hQ10.gr g
       replace hO10 := hO10.gr g
       replace hI12 := hI12.gr g
       replace hI14 := hI14.gr g
       replace hI16 := hI16.gr g
       clear g
       refine Y.pv F (X.assign rfl (F.ev 79 (.bool true))) ?_;clear F ac;intro ac F
       refine Y.nt F [(6, .bool true)] ?_;clear F ac;intro ac F
       refine Y.ret ?_
       refine X.thenR ?_
       exact Y.ret0 (v := .bool true) F (Y.r1 F) ⟨rfl, G⟩
     | true =>
      try rw [h23] at F
      have h23p : ((hq9 : Int) < 0) := of_decide_eq_true h23
      refine Y.ps F 10 72 true ?_;clear F ac;intro ac F
      refine Y.ps F 10 72 true ?_;clear F ac;intro ac F
      refine Y.ps F 10 72 true ?_;clear F ac;intro ac F
      refine Y.ps F 10 72 true ?_;clear F ac;intro ac F
      refine Y.ps F 10 72 true ?_;clear F ac;intro ac F
      refine Y.pv F (X.pickT rfl (F.ev 72 (.bool true)) (X.kc (.bool true) rfl)) ?_;clear F ac;intro ac F
      refine Y.nt F [(1, .slice a xs.length c), (2, Vi hq9), (7, .slice ra14 ((repR p xs hq9).1.length) rc14), (8, Vi ((repR p xs hq9).2.1)), (9, Vi ((repR p xs hq9).2.2)), (78, .bool true)] ?_;clear F ac;intro ac F
      refine Y.condT (F.ev 78 (.bool true)) ?_
      refine Y.sl ?_
      refine Y.pcall F (X.w0 rfl) rfl (X.enter (F := 16) rfl (X.kc (.func (.func 16) #[] #[]) rfl) rfl (enters_of Try.func16 (by kernel_rfl) rfl _)) (works_any w19) ?_
      clear F ac
      rintro e w33 ⟨rfl, g⟩
      refine ⟨_, rfl, ?_⟩
      intro ac F
      replace G := G.trans g
      replace hC := hC.gr g
      replace hPP := hPP.gr g
      replace hXX := hXX.gr g
      replace hQ10 := hQ10.gr g
      replace hO10 := hO10.gr g
      replace hI12 := hI12.gr g
      replace hI14 := hI14.gr g
      replace hI16 := hI16.gr g
      clear g
      refine Y.pv F (X.assign rfl (F.ev 79 (.bool true))) ?_;clear F ac;intro ac F
      refine Y.nt F [(6, .bool true)] ?_;clear F ac;intro ac F
      refine Y.ret ?_
      refine X.thenR ?_
      exact Y.ret0 (v := .bool true) F (Y.r1 F) ⟨rfl, G⟩
   | true =>
    try rw [h20] at F
    have h20p : ¬ (whoE p xs : Int) = 0 := by simpa using h20
    refine Y.ps F 2 64 true ?_;clear F ac;intro ac F
    refine Y.ps F 2 64 true ?_;clear F ac;intro ac F
    refine Y.pv2 F (X.pickT rfl (F.ev 64 (.bool true)) (X.kc (.bool true) rfl)) (fun _ F=>X.move rfl (F.ev 67 (.bool true))) ?_;clear F ac;intro ac F
    refine Y.ps F 6 68 true ?_;clear F ac;intro ac F
    refine Y.ps F 6 68 true ?_;clear F ac;intro ac F
    refine Y.pv2 F (X.pickT rfl (F.ev 68 (.bool true)) (X.kc (.bool true) rfl)) (fun _ F=>X.move rfl (F.ev 71 (.bool true))) ?_;clear F ac;intro ac F
    refine Y.ps F 10 72 true ?_;clear F ac;intro ac F
    refine Y.ps F 10 72 true ?_;clear F ac;intro ac F
    refine Y.ps F 10 72 true ?_;clear F ac;intro ac F
    refine Y.ps F 10 72 true ?_;clear F ac;intro ac F
    refine Y.ps F 10 72 true ?_;clear F ac;intro ac F
    refine Y.pv F (X.pickT rfl (F.ev 72 (.bool true)) (X.kc (.bool true) rfl)) ?_;clear F ac;intro ac F
    refine Y.nt F [(1, .slice a xs.length c), (2, Vi hq9), (7, .slice ra14 ((repR p xs hq9).1.length) rc14), (8, Vi ((repR p xs hq9).2.1)), (9, Vi ((repR p xs hq9).2.2)), (78, .bool true)] ?_;clear F ac;intro ac F
    refine Y.condT (F.ev 78 (.bool true)) ?_
    refine Y.sl ?_
    refine Y.pcall F (X.w0 rfl) rfl (X.enter (F := 16) rfl (X.kc (.func (.func 16) #[] #[]) rfl) rfl (enters_of Try.func16 (by kernel_rfl) rfl _)) (works_any w19) ?_
    clear F ac
    rintro e w34 ⟨rfl, g⟩
    refine ⟨_, rfl, ?_⟩
    intro ac F
    replace G := G.trans g
    replace hC := hC.gr g
    replace hPP := hPP.gr g
    replace hXX := hXX.gr g
    replace hQ10 := hQ10.gr g
    replace hO10 := hO10.gr g
    replace hI12 := hI12.gr g
    replace hI14 := hI14.gr g
    replace hI16 := hI16.gr g
    clear g
    refine Y.pv F (X.assign rfl (F.ev 79 (.bool true))) ?_;clear F ac;intro ac F
    refine Y.nt F [(6, .bool true)] ?_;clear F ac;intro ac F
    refine Y.ret ?_
    refine X.thenR ?_
    exact Y.ret0 (v := .bool true) F (Y.r1 F) ⟨rfl, G⟩
  | true =>
   try rw [h9] at F
   have h9p : ((30 : Int) < xs.length) := of_decide_eq_true h9
   refine Y.condT (F.ev 22 (.bool true)) ?_
   refine Y.sl ?_
   refine Y.pcall F (X.w0 rfl) rfl (X.enter (F := 16) rfl (X.kc (.func (.func 16) #[] #[]) rfl) rfl (enters_of Try.func16 (by kernel_rfl) rfl _)) (works_any w7) ?_
   clear F ac
   rintro e w35 ⟨rfl, g⟩
   refine ⟨_, rfl, ?_⟩
   intro ac F
   replace G := G.trans g
   replace hC := hC.gr g
   replace hPP := hPP.gr g
   replace hXX := hXX.gr g
   clear g
   refine Y.pv F (X.assign rfl (F.ev 23 (.bool true))) ?_;clear F ac;intro ac F
   refine Y.nt F [(6, .bool true)] ?_;clear F ac;intro ac F
   refine Y.ret ?_
   refine X.thenR ?_
   exact Y.ret0 (v := .bool true) F (Y.r1 F) ⟨rfl, G⟩
 | true =>
  try rw [h8] at F
  refine Y.ps F 2 18 true ?_;clear F ac;intro ac F
  refine Y.ps F 2 18 true ?_;clear F ac;intro ac F
  refine Y.ps F 2 18 true ?_;clear F ac;intro ac F
  refine Y.pv F (X.pickT rfl (F.ev 18 (.bool true)) (X.kc (.bool true) rfl)) ?_;clear F ac;intro ac F
  refine Y.nt F [(1, .slice a xs.length c), (2, Vi hq9), (3, Vp w.heap.size), (22, .bool true)] ?_;clear F ac;intro ac F
  refine Y.condT (F.ev 22 (.bool true)) ?_
  refine Y.sl ?_
  refine Y.pcall F (X.w0 rfl) rfl (X.enter (F := 16) rfl (X.kc (.func (.func 16) #[] #[]) rfl) rfl (enters_of Try.func16 (by kernel_rfl) rfl _)) (works_any w7) ?_
  clear F ac
  rintro e w36 ⟨rfl, g⟩
  refine ⟨_, rfl, ?_⟩
  intro ac F
  replace G := G.trans g
  replace hC := hC.gr g
  replace hPP := hPP.gr g
  replace hXX := hXX.gr g
  clear g
  refine Y.pv F (X.assign rfl (F.ev 23 (.bool true))) ?_;clear F ac;intro ac F
  refine Y.nt F [(6, .bool true)] ?_;clear F ac;intro ac F
  refine Y.ret ?_
  refine X.thenR ?_
  exact Y.ret0 (v := .bool true) F (Y.r1 F) ⟨rfl, G⟩
end Go.Proofs.Ytodedneanlekdaa
