/- Contracts: the laws about Allowed, Cost, Hopeless, Bound. -/
import Derived.Test.YtodedneanlekdaaBd13
import Derived.Test.YtodedneanlekdaaBd14
namespace Go.Proofs.Ytodedneanlekdaa
set_option linter.unusedSimpArgs false
set_option linter.unusedVariables false
open Go.RowKit

set_option maxRecDepth 100000 in
set_option maxHeartbeats 1000000 in
theorem plans_any (p : Pb) (ta ha ba la : Option Addr) (tc hc bc lc : Nat) (a : Option Addr) (c : Nat) (xs : List Int) (w : World) (hP : PbAt w p ta ha ba la tc hc bc lc) (hX : Ints w a xs.length xs) :
  Calls Try.prog 8 #[.agg #[.slice ta p.nt tc, .slice ha p.nh hc, .slice ba p.nb bc, .slice la p.nl lc], .slice a xs.length c] w fun e w' => e = .returned (.bool true) ∧ Gr w w' := by
 have G := Gr.refl w
 have hPP := hP
 have hXX := hX
 have hlx := hX.lt
 refine Y.calls 70 Try.func8 rfl rfl ?_
 intro ac F0
 have F : Fr ac 70 [(0, .agg #[.slice ta p.nt tc, .slice ha p.nh hc, .slice ba p.nb bc, .slice la p.nl lc]), (1, .slice a xs.length c)] := F0.sub _
 clear F0
 refine Y.seq ?_
 refine Y.lit (by kernel_rfl) ?_
 have hgs3 : w.heap.size ≤ w.heap.size := G.size
 refine Y.pv F (X.box rfl (F.ev 0 (.agg #[.slice ta p.nt tc, .slice ha p.nh hc, .slice ba p.nb bc, .slice la p.nl lc])) X.bx) ?_;clear F ac;intro ac F
 have hgs5 : w.heap.size ≤ w.heap.size := G.size
 have g := Gr.alloc w (.cells #[.slice ta p.nt tc, .slice ha p.nh hc, .slice ba p.nb bc, .slice la p.nl lc] 27)
 have hb := heap_alloc_new w (.cells #[.slice ta p.nt tc, .slice ha p.nh hc, .slice ba p.nb bc, .slice la p.nl lc] 27)
 have hbl : w.heap.size < (w.alloc (.cells #[.slice ta p.nt tc, .slice ha p.nh hc, .slice ba p.nb bc, .slice la p.nl lc] 27)).heap.size := by simp
 have hC2 : RCells (w.alloc (.cells #[.slice ta p.nt tc, .slice ha p.nh hc, .slice ba p.nb bc, .slice la p.nl lc] 27)) [(Ad w.heap.size 0, .slice ta p.nt tc), (Ad w.heap.size 1, .slice ha p.nh hc), (Ad w.heap.size 2, .slice ba p.nb bc), (Ad w.heap.size 3, .slice la p.nl lc)] := (RCells.nil w).box (b := w.heap.size) #[.slice ta p.nt tc, .slice ha p.nh hc, .slice ba p.nb bc, .slice la p.nl lc] 27 rfl
 generalize w.alloc (.cells #[.slice ta p.nt tc, .slice ha p.nh hc, .slice ba p.nb bc, .slice la p.nl lc] 27) = w6 at *
 replace G := G.trans g
 have hC := hC2
 clear hC2
 replace hPP := hPP.gr g
 replace hXX := hXX.gr g
 have hsz4 := hbl
 clear g hb hbl
 refine Y.pv F (X.assign rfl (X.kc (.bool false) rfl)) ?_;clear F ac;intro ac F
 refine Y.nil ?_
 replace F : Fr ac 70 [(1, .slice a xs.length c), (2, Vp w.heap.size)] := F.sub _
 refine X.thenN ?_
 refine Y.seq ?_
 refine Y.seq ?_
 refine Y.lit (by kernel_rfl) ?_
 refine Y.pv F (X.load rfl (F.ev 2 (Vp w.heap.size)) (X.ldN (Try.agg27 _) (Try.siz27 _) (Y.atz (⟨w.heap.size, 0, none⟩) (Y.AtFrom.cons (hC.at 0 rfl) (Y.AtFrom.cons (hC.at 1 rfl) (Y.AtFrom.cons (hC.at 2 rfl) (Y.AtFrom.cons (hC.at 3 rfl) (Y.AtFrom.nil _ _ _)))))))) ?_;clear F ac;intro ac F
 refine Y.pcall F (X.w0 rfl) rfl (X.enter (F := 15) rfl (X.kc (.func (.func 15) #[] #[]) rfl) (X.a1 (F.ev 13 (.agg #[.slice ta p.nt tc, .slice ha p.nh hc, .slice ba p.nb bc, .slice la p.nl lc]))) (enters_of Try.func15 (by kernel_rfl) rfl _)) (far_any p ta ha ba la tc hc bc lc w6 hPP) ?_
 clear F ac
 rintro e w7 ⟨rfl, g⟩
 refine ⟨_, rfl, ?_⟩
 intro ac F
 replace G := G.trans g
 replace hC := hC.gr g
 replace hPP := hPP.gr g
 replace hXX := hXX.gr g
 clear g
 refine Y.pv F (X.move rfl (F.ev 14 (.bool (farB p)))) ?_;clear F ac;intro ac F
 cases h8 : farB p with
 | false =>
  try rw [h8] at F
  have hz : SmlP p := far_sz h8
  refine Y.pval F (X.w1 rfl (F.yl (j := 2) (d := 15) (b := false) rfl (by kernel_rfl))) rfl (X.move rfl (F.ev 1 (.slice a xs.length c))) ?_;clear F ac;intro ac F
  refine Y.pval F (X.w1 rfl (F.yl (j := 2) (d := 15) (b := false) rfl (by kernel_rfl))) rfl (X.len1 Try.underlying34 rfl (F.ev 16 (.slice a xs.length c))) ?_;clear F ac;intro ac F
  refine Y.pval F (X.w1 rfl (F.yl (j := 2) (d := 15) (b := false) rfl (by kernel_rfl))) rfl (X.binop rfl (F.ev 17 (Vi xs.length)) (X.kc (Vi 30) rfl) (X.gtrI Try.underlying3 rfl)) ?_;clear F ac;intro ac F
  refine Y.pv F (X.pickF rfl (F.ev 15 (.bool false)) (F.ev 18 (.bool (decide ((30 : Int) < xs.length))))) ?_;clear F ac;intro ac F
  refine Y.nil ?_
  replace F : Fr ac 70 [(1, .slice a xs.length c), (2, Vp w.heap.size), (19, .bool (decide ((30 : Int) < xs.length)))] := F.sub _
  refine X.thenN ?_
  cases h9 : decide ((30 : Int) < xs.length) with
  | false =>
   try rw [h9] at F
   have h9p : ¬ ((30 : Int) < xs.length) := of_decide_eq_false h9
   refine Y.condF (F.ev 19 (.bool false)) ?_
   refine Y.skip ?_
   refine X.thenN ?_
   refine Y.seq ?_
   refine Y.lit (by kernel_rfl) ?_
   refine Y.pv F (X.load rfl (F.ev 2 (Vp w.heap.size)) (X.ldN (Try.agg27 _) (Try.siz27 _) (Y.atz (⟨w.heap.size, 0, none⟩) (Y.AtFrom.cons (hC.at 0 rfl) (Y.AtFrom.cons (hC.at 1 rfl) (Y.AtFrom.cons (hC.at 2 rfl) (Y.AtFrom.cons (hC.at 3 rfl) (Y.AtFrom.nil _ _ _)))))))) ?_;clear F ac;intro ac F
   refine Y.pcall F (X.w0 rfl) rfl (X.enter (F := 17) rfl (X.kc (.func (.func 17) #[] #[]) rfl) (X.a1 (F.ev 22 (.agg #[.slice ta p.nt tc, .slice ha p.nh hc, .slice ba p.nb bc, .slice la p.nl lc]))) (enters_of Try.func17 (by kernel_rfl) rfl _)) (copy_any p ta ha ba la tc hc bc lc w7 hPP hz) ?_
   clear F ac
   rintro e w11 ⟨ta10, ha10, ba10, la10, tc10, hc10, bc10, lc10, rfl, hO10, g⟩
   have hQ10 := hO10.at hz
   refine ⟨_, rfl, ?_⟩
   intro ac F
   replace G := G.trans g
   replace hC := hC.gr g
   replace hPP := hPP.gr g
   replace hXX := hXX.gr g
   clear g
   refine Y.pv F (X.move rfl (F.ev 1 (.slice a xs.length c))) ?_;clear F ac;intro ac F
   refine Y.pcall F (X.w0 rfl) rfl (X.enter (F := 33) rfl (X.kc (.func (.func 33) #[] #[]) rfl) (X.a1 (F.ev 24 (.slice a xs.length c))) (enters_of Try.func33 (by kernel_rfl) rfl _)) (ints_any a c xs w11 hXX (by omega)) ?_
   clear F ac
   rintro e w13 ⟨xa12, xc12, rfl, hO12, g⟩
   have hI12 := hO12.intsS (by omega)
   refine ⟨_, rfl, ?_⟩
   intro ac F
   replace G := G.trans g
   replace hC := hC.gr g
   replace hPP := hPP.gr g
   replace hXX := hXX.gr g
   replace hQ10 := hQ10.gr g
   replace hO10 := hO10.gr g
   clear g
   refine Y.pcall F (X.w0 rfl) rfl (X.enter (F := 32) rfl (X.kc (.func (.func 32) #[] #[]) rfl) (X.a2 (F.ev 23 (.agg #[.slice ta10 p.nt tc10, .slice ha10 p.nh hc10, .slice ba10 p.nb bc10, .slice la10 p.nl lc10])) (F.ev 25 (.slice xa12 xs.length xc12))) (enters_of Try.func32 (by kernel_rfl) rfl _)) (allowed_any p ta10 ha10 ba10 la10 tc10 hc10 bc10 lc10 xa12 xc12 xs w13 hQ10 hI12) ?_
   clear F ac
   rintro e w14 ⟨rfl, g⟩
   refine ⟨_, rfl, ?_⟩
   intro ac F
   replace G := G.trans g
   replace hC := hC.gr g
   replace hPP := hPP.gr g
   replace hXX := hXX.gr g
   replace hQ10 := hQ10.gr g
   replace hO10 := hO10.gr g
   replace hI12 := hI12.gr g
   clear g
   refine Y.pv F (X.move rfl (F.ev 26 (.tuple #[.bool (allowV p xs), Vi (whoE p xs)]))) ?_;clear F ac;intro ac F
   refine Y.pv F (X.extract rfl (F.ev 21 (.tuple #[.bool (allowV p xs), Vi (whoE p xs)])) rfl) ?_;clear F ac;intro ac F
   refine Y.pv F (X.extract rfl (F.ev 21 (.tuple #[.bool (allowV p xs), Vi (whoE p xs)])) rfl) ?_;clear F ac;intro ac F
   refine Y.pv F (X.assign rfl (F.ev 27 (.bool (allowV p xs)))) ?_;clear F ac;intro ac F
   refine Y.pv F (X.assign rfl (F.ev 28 (Vi (whoE p xs)))) ?_;clear F ac;intro ac F
   refine Y.nil ?_
   replace F : Fr ac 70 [(1, .slice a xs.length c), (2, Vp w.heap.size), (5, .bool (allowV p xs)), (6, Vi (whoE p xs))] := F.sub _
   refine X.thenN ?_
   refine Y.seq ?_
   refine Y.lit (by kernel_rfl) ?_
   refine Y.pv F (X.load rfl (F.ev 2 (Vp w.heap.size)) (X.ldN (Try.agg27 _) (Try.siz27 _) (Y.atz (⟨w.heap.size, 0, none⟩) (Y.AtFrom.cons (hC.at 0 rfl) (Y.AtFrom.cons (hC.at 1 rfl) (Y.AtFrom.cons (hC.at 2 rfl) (Y.AtFrom.cons (hC.at 3 rfl) (Y.AtFrom.nil _ _ _)))))))) ?_;clear F ac;intro ac F
   refine Y.pv F (X.move rfl (F.ev 1 (.slice a xs.length c))) ?_;clear F ac;intro ac F
   refine Y.pcall F (X.w0 rfl) rfl (X.enter (F := 34) rfl (X.kc (.func (.func 34) #[] #[]) rfl) (X.a2 (F.ev 30 (.agg #[.slice ta p.nt tc, .slice ha p.nh hc, .slice ba p.nb bc, .slice la p.nl lc])) (F.ev 31 (.slice a xs.length c))) (enters_of Try.func34 (by kernel_rfl) rfl _)) (allowed2_any p ta ha ba la tc hc bc lc a c xs w14 hPP hXX) ?_
   clear F ac
   rintro e w15 ⟨rfl, g⟩
   refine ⟨_, rfl, ?_⟩
   intro ac F
   replace G := G.trans g
   replace hC := hC.gr g
   replace hPP := hPP.gr g
   replace hXX := hXX.gr g
   replace hQ10 := hQ10.gr g
   replace hO10 := hO10.gr g
   replace hI12 := hI12.gr g
   clear g
   refine Y.pv F (X.move rfl (F.ev 32 (.tuple #[.bool (allowV p xs), Vi (whoE p xs)]))) ?_;clear F ac;intro ac F
   refine Y.pv F (X.extract rfl (F.ev 29 (.tuple #[.bool (allowV p xs), Vi (whoE p xs)])) rfl) ?_;clear F ac;intro ac F
   refine Y.pv F (X.extract rfl (F.ev 29 (.tuple #[.bool (allowV p xs), Vi (whoE p xs)])) rfl) ?_;clear F ac;intro ac F
   refine Y.pv F (X.assign rfl (F.ev 33 (.bool (allowV p xs)))) ?_;clear F ac;intro ac F
   refine Y.pv F (X.assign rfl (F.ev 34 (Vi (whoE p xs)))) ?_;clear F ac;intro ac F
   refine Y.nil ?_
   replace F : Fr ac 70 [(1, .slice a xs.length c), (2, Vp w.heap.size), (5, .bool (allowV p xs)), (6, Vi (whoE p xs)), (7, .bool (allowV p xs)), (8, Vi (whoE p xs))] := F.sub _
   refine X.thenN ?_
   refine Y.seq ?_
   refine Y.lit (by kernel_rfl) ?_
   refine Y.pv F (X.load rfl (F.ev 2 (Vp w.heap.size)) (X.ldN (Try.agg27 _) (Try.siz27 _) (Y.atz (⟨w.heap.size, 0, none⟩) (Y.AtFrom.cons (hC.at 0 rfl) (Y.AtFrom.cons (hC.at 1 rfl) (Y.AtFrom.cons (hC.at 2 rfl) (Y.AtFrom.cons (hC.at 3 rfl) (Y.AtFrom.nil _ _ _)))))))) ?_;clear F ac;intro ac F
   refine Y.pcall F (X.w0 rfl) rfl (X.enter (F := 17) rfl (X.kc (.func (.func 17) #[] #[]) rfl) (X.a1 (F.ev 36 (.agg #[.slice ta p.nt tc, .slice ha p.nh hc, .slice ba p.nb bc, .slice la p.nl lc]))) (enters_of Try.func17 (by kernel_rfl) rfl _)) (copy_any p ta ha ba la tc hc bc lc w15 hPP hz) ?_
   clear F ac
   rintro e w17 ⟨ta16, ha16, ba16, la16, tc16, hc16, bc16, lc16, rfl, hO16, g⟩
   have hQ16 := hO16.at hz
   refine ⟨_, rfl, ?_⟩
   intro ac F
   replace G := G.trans g
   replace hC := hC.gr g
   replace hPP := hPP.gr g
   replace hXX := hXX.gr g
   replace hQ10 := hQ10.gr g
   replace hO10 := hO10.gr g
   replace hI12 := hI12.gr g
   clear g
   refine Y.pv F (X.move rfl (F.ev 1 (.slice a xs.length c))) ?_;clear F ac;intro ac F
   refine Y.pcall F (X.w0 rfl) rfl (X.enter (F := 33) rfl (X.kc (.func (.func 33) #[] #[]) rfl) (X.a1 (F.ev 38 (.slice a xs.length c))) (enters_of Try.func33 (by kernel_rfl) rfl _)) (ints_any a c xs w17 hXX (by omega)) ?_
   clear F ac
   rintro e w19 ⟨xa18, xc18, rfl, hO18, g⟩
   have hI18 := hO18.intsS (by omega)
   refine ⟨_, rfl, ?_⟩
   intro ac F
   replace G := G.trans g
   replace hC := hC.gr g
   replace hPP := hPP.gr g
   replace hXX := hXX.gr g
   replace hQ10 := hQ10.gr g
   replace hO10 := hO10.gr g
   replace hI12 := hI12.gr g
   replace hQ16 := hQ16.gr g
   replace hO16 := hO16.gr g
   clear g
   refine Y.pcall F (X.w0 rfl) rfl (X.enter (F := 35) rfl (X.kc (.func (.func 35) #[] #[]) rfl) (X.a2 (F.ev 37 (.agg #[.slice ta16 p.nt tc16, .slice ha16 p.nh hc16, .slice ba16 p.nb bc16, .slice la16 p.nl lc16])) (F.ev 39 (.slice xa18 xs.length xc18))) (enters_of Try.func35 (by kernel_rfl) rfl _)) (cost_any p ta16 ha16 ba16 la16 tc16 hc16 bc16 lc16 xa18 xc18 xs w19 hQ16 hI18) ?_
   clear F ac
   rintro e w20 ⟨rfl, g⟩
   refine ⟨_, rfl, ?_⟩
   intro ac F
   replace G := G.trans g
   replace hC := hC.gr g
   replace hPP := hPP.gr g
   replace hXX := hXX.gr g
   replace hQ10 := hQ10.gr g
   replace hO10 := hO10.gr g
   replace hI12 := hI12.gr g
   replace hQ16 := hQ16.gr g
   replace hO16 := hO16.gr g
   replace hI18 := hI18.gr g
   clear g
   refine Y.pv F (X.move rfl (F.ev 40 (.tuple #[Vi (costV p xs), Vi (whoE p xs)]))) ?_;clear F ac;intro ac F
   refine Y.pv F (X.extract rfl (F.ev 35 (.tuple #[Vi (costV p xs), Vi (whoE p xs)])) rfl) ?_;clear F ac;intro ac F
   refine Y.pv F (X.extract rfl (F.ev 35 (.tuple #[Vi (costV p xs), Vi (whoE p xs)])) rfl) ?_;clear F ac;intro ac F
   refine Y.pv F (X.assign rfl (F.ev 41 (Vi (costV p xs)))) ?_;clear F ac;intro ac F
   refine Y.pv F (X.assign rfl (F.ev 42 (Vi (whoE p xs)))) ?_;clear F ac;intro ac F
   refine Y.nil ?_
   replace F : Fr ac 70 [(1, .slice a xs.length c), (2, Vp w.heap.size), (5, .bool (allowV p xs)), (6, Vi (whoE p xs)), (7, .bool (allowV p xs)), (8, Vi (whoE p xs)), (9, Vi (costV p xs)), (10, Vi (whoE p xs))] := F.sub _
   refine X.thenN ?_
   refine Y.seq ?_
   refine Y.lit (by kernel_rfl) ?_
   refine Y.pv F (X.load rfl (F.ev 2 (Vp w.heap.size)) (X.ldN (Try.agg27 _) (Try.siz27 _) (Y.atz (⟨w.heap.size, 0, none⟩) (Y.AtFrom.cons (hC.at 0 rfl) (Y.AtFrom.cons (hC.at 1 rfl) (Y.AtFrom.cons (hC.at 2 rfl) (Y.AtFrom.cons (hC.at 3 rfl) (Y.AtFrom.nil _ _ _)))))))) ?_;clear F ac;intro ac F
   refine Y.pv F (X.move rfl (F.ev 1 (.slice a xs.length c))) ?_;clear F ac;intro ac F
   refine Y.pcall F (X.w0 rfl) rfl (X.enter (F := 36) rfl (X.kc (.func (.func 36) #[] #[]) rfl) (X.a2 (F.ev 44 (.agg #[.slice ta p.nt tc, .slice ha p.nh hc, .slice ba p.nb bc, .slice la p.nl lc])) (F.ev 45 (.slice a xs.length c))) (enters_of Try.func36 (by kernel_rfl) rfl _)) (cost2_any p ta ha ba la tc hc bc lc a c xs w20 hPP hXX) ?_
   clear F ac
   rintro e w21 ⟨rfl, g⟩
   refine ⟨_, rfl, ?_⟩
   intro ac F
   replace G := G.trans g
   replace hC := hC.gr g
   replace hPP := hPP.gr g
   replace hXX := hXX.gr g
   replace hQ10 := hQ10.gr g
   replace hO10 := hO10.gr g
   replace hI12 := hI12.gr g
   replace hQ16 := hQ16.gr g
   replace hO16 := hO16.gr g
   replace hI18 := hI18.gr g
   clear g
   refine Y.pv F (X.move rfl (F.ev 46 (.tuple #[Vi (costV p xs), Vi (whoE p xs)]))) ?_;clear F ac;intro ac F
   refine Y.pv F (X.extract rfl (F.ev 43 (.tuple #[Vi (costV p xs), Vi (whoE p xs)])) rfl) ?_;clear F ac;intro ac F
   refine Y.pv F (X.extract rfl (F.ev 43 (.tuple #[Vi (costV p xs), Vi (whoE p xs)])) rfl) ?_;clear F ac;intro ac F
   refine Y.pv F (X.assign rfl (F.ev 47 (Vi (costV p xs)))) ?_;clear F ac;intro ac F
   refine Y.pv F (X.assign rfl (F.ev 48 (Vi (whoE p xs)))) ?_;clear F ac;intro ac F
   refine Y.nil ?_
   replace F : Fr ac 70 [(5, .bool (allowV p xs)), (6, Vi (whoE p xs)), (7, .bool (allowV p xs)), (8, Vi (whoE p xs)), (9, Vi (costV p xs)), (10, Vi (whoE p xs)), (11, Vi (costV p xs)), (12, Vi (whoE p xs))] := F.sub _
   refine X.thenN ?_
   refine Y.seq ?_
   refine Y.lit (by kernel_rfl) ?_
   refine Y.pv F (X.move rfl (F.ev 5 (.bool (allowV p xs)))) ?_;clear F ac;intro ac F
   refine Y.pv F (X.move rfl (F.ev 7 (.bool (allowV p xs)))) ?_;clear F ac;intro ac F
   refine Y.pval F (X.w0 rfl) rfl (X.binop rfl (F.ev 49 (.bool (allowV p xs))) (F.ev 50 (.bool (allowV p xs))) (Y.eqlB Try.underlying4 (show ((allowV p xs) == (allowV p xs)) = true by simp))) ?_;clear F ac;intro ac F
   refine Y.pv F (X.move rfl (F.ev 51 (.bool true))) ?_;clear F ac;intro ac F
   refine Y.pval F (X.w1 rfl (F.yl (j := 3) (d := 52) (b := true) rfl (by kernel_rfl))) rfl (X.move rfl (F.ev 6 (Vi (whoE p xs)))) ?_;clear F ac;intro ac F
   refine Y.pval F (X.w1 rfl (F.yl (j := 3) (d := 52) (b := true) rfl (by kernel_rfl))) rfl (X.move rfl (F.ev 8 (Vi (whoE p xs)))) ?_;clear F ac;intro ac F
   refine Y.pval F (X.w1 rfl (F.yl (j := 3) (d := 52) (b := true) rfl (by kernel_rfl))) rfl (X.binop rfl (F.ev 53 (Vi (whoE p xs))) (F.ev 54 (Vi (whoE p xs))) (X.eqlI Try.underlying31 (show ((whoE p xs : Int) == (whoE p xs)) = true by simp))) ?_;clear F ac;intro ac F
   refine Y.pv F (X.pickT rfl (F.ev 52 (.bool true)) (F.ev 55 (.bool true))) ?_;clear F ac;intro ac F
   refine Y.pv F (X.move rfl (F.ev 56 (.bool true))) ?_;clear F ac;intro ac F
   refine Y.pval F (X.w1 rfl (F.yl (j := 8) (d := 57) (b := true) rfl (by kernel_rfl))) rfl (X.move rfl (F.ev 9 (Vi (costV p xs)))) ?_;clear F ac;intro ac F
   refine Y.pval F (X.w1 rfl (F.yl (j := 8) (d := 57) (b := true) rfl (by kernel_rfl))) rfl (X.move rfl (F.ev 11 (Vi (costV p xs)))) ?_;clear F ac;intro ac F
   refine Y.pval F (X.w1 rfl (F.yl (j := 8) (d := 57) (b := true) rfl (by kernel_rfl))) rfl (X.binop rfl (F.ev 58 (Vi (costV p xs))) (F.ev 59 (Vi (costV p xs))) (X.eqlI Try.underlying3 (show ((costV p xs : Int) == (costV p xs)) = true by simp))) ?_;clear F ac;intro ac F
   refine Y.pv F (X.pickT rfl (F.ev 57 (.bool true)) (F.ev 60 (.bool true))) ?_;clear F ac;intro ac F
   refine Y.pv F (X.move rfl (F.ev 61 (.bool true))) ?_;clear F ac;intro ac F
   refine Y.pval F (X.w1 rfl (F.yl (j := 13) (d := 62) (b := true) rfl (by kernel_rfl))) rfl (X.move rfl (F.ev 10 (Vi (whoE p xs)))) ?_;clear F ac;intro ac F
   refine Y.pval F (X.w1 rfl (F.yl (j := 13) (d := 62) (b := true) rfl (by kernel_rfl))) rfl (X.move rfl (F.ev 12 (Vi (whoE p xs)))) ?_;clear F ac;intro ac F
   refine Y.pval F (X.w1 rfl (F.yl (j := 13) (d := 62) (b := true) rfl (by kernel_rfl))) rfl (X.binop rfl (F.ev 63 (Vi (whoE p xs))) (F.ev 64 (Vi (whoE p xs))) (X.eqlI Try.underlying31 (show ((whoE p xs : Int) == (whoE p xs)) = true by simp))) ?_;clear F ac;intro ac F
   refine Y.pv F (X.pickT rfl (F.ev 62 (.bool true)) (F.ev 65 (.bool true))) ?_;clear F ac;intro ac F
   refine Y.pv F (X.move rfl (F.ev 66 (.bool true))) ?_;clear F ac;intro ac F
   refine Y.pcall F (X.w1 rfl (F.yl (j := 18) (d := 67) (b := true) rfl (by kernel_rfl))) rfl (X.enter (F := 16) rfl (X.kc (.func (.func 16) #[] #[]) rfl) rfl (enters_of Try.func16 (by kernel_rfl) rfl _)) (works_any w21) ?_
   clear F ac
   rintro e w22 ⟨rfl, g⟩
   refine ⟨_, rfl, ?_⟩
   intro ac F
   replace G := G.trans g
   replace hC := hC.gr g
   replace hPP := hPP.gr g
   replace hXX := hXX.gr g
   replace hQ10 := hQ10.gr g
   replace hO10 := hO10.gr g
   replace hI12 := hI12.gr g
   replace hQ16 := hQ16.gr g
   replace hO16 := hO16.gr g
   replace hI18 := hI18.gr g
   clear g
   refine Y.pv F (X.pickT rfl (F.ev 67 (.bool true)) (F.ev 68 (.bool true))) ?_;clear F ac;intro ac F
   refine Y.pv F (X.assign rfl (F.ev 69 (.bool true))) ?_;clear F ac;intro ac F
   refine Y.nil ?_
   replace F : Fr ac 70 [(4, .bool true)] := F.sub _
   refine X.thenN ?_
   refine Y.ret ?_
   exact Y.ret0 (v := .bool true) F (Y.rs1 F rfl (by kernel_rfl)) ⟨rfl, G⟩
  | true =>
   try rw [h9] at F
   have h9p : ((30 : Int) < xs.length) := of_decide_eq_true h9
   refine Y.condT (F.ev 19 (.bool true)) ?_
   refine Y.seq ?_
   refine Y.lit (by kernel_rfl) ?_
   refine Y.pcall F (X.w0 rfl) rfl (X.enter (F := 16) rfl (X.kc (.func (.func 16) #[] #[]) rfl) rfl (enters_of Try.func16 (by kernel_rfl) rfl _)) (works_any w7) ?_
   clear F ac
   rintro e w23 ⟨rfl, g⟩
   refine ⟨_, rfl, ?_⟩
   intro ac F
   replace G := G.trans g
   replace hC := hC.gr g
   replace hPP := hPP.gr g
   replace hXX := hXX.gr g
   clear g
   refine Y.pv F (X.assign rfl (F.ev 20 (.bool true))) ?_;clear F ac;intro ac F
   refine Y.nil ?_
   replace F : Fr ac 70 [(4, .bool true)] := F.sub _
   refine X.thenN ?_
   refine Y.ret ?_
   refine X.thenR ?_
   exact Y.ret0 (v := .bool true) F (Y.rs1 F rfl (by kernel_rfl)) ⟨rfl, G⟩
 | true =>
  try rw [h8] at F
  refine Y.pskip F (X.w2 rfl (F.yl (j := 2) (d := 15) (b := true) rfl (by kernel_rfl)) rfl) rfl ?_;clear F ac;intro ac F
  refine Y.pskip F (X.w2 rfl (F.yl (j := 2) (d := 15) (b := true) rfl (by kernel_rfl)) rfl) rfl ?_;clear F ac;intro ac F
  refine Y.pskip F (X.w2 rfl (F.yl (j := 2) (d := 15) (b := true) rfl (by kernel_rfl)) rfl) rfl ?_;clear F ac;intro ac F
  refine Y.pv F (X.pickT rfl (F.ev 15 (.bool true)) (X.kc (.bool true) rfl)) ?_;clear F ac;intro ac F
  refine Y.nil ?_
  replace F : Fr ac 70 [(1, .slice a xs.length c), (2, Vp w.heap.size), (19, .bool true)] := F.sub _
  refine X.thenN ?_
  refine Y.condT (F.ev 19 (.bool true)) ?_
  refine Y.seq ?_
  refine Y.lit (by kernel_rfl) ?_
  refine Y.pcall F (X.w0 rfl) rfl (X.enter (F := 16) rfl (X.kc (.func (.func 16) #[] #[]) rfl) rfl (enters_of Try.func16 (by kernel_rfl) rfl _)) (works_any w7) ?_
  clear F ac
  rintro e w24 ⟨rfl, g⟩
  refine ⟨_, rfl, ?_⟩
  intro ac F
  replace G := G.trans g
  replace hC := hC.gr g
  replace hPP := hPP.gr g
  replace hXX := hXX.gr g
  clear g
  refine Y.pv F (X.assign rfl (F.ev 20 (.bool true))) ?_;clear F ac;intro ac F
  refine Y.nil ?_
  replace F : Fr ac 70 [(4, .bool true)] := F.sub _
  refine X.thenN ?_
  refine Y.ret ?_
  refine X.thenR ?_
  exact Y.ret0 (v := .bool true) F (Y.rs1 F rfl (by kernel_rfl)) ⟨rfl, G⟩
end Go.Proofs.Ytodedneanlekdaa
