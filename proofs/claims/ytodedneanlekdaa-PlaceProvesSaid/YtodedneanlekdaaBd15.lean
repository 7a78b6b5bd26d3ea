/- Contract: the law about Prove. -/
import Derived.Test.YtodedneanlekdaaBd13
import Derived.Test.YtodedneanlekdaaBd14
namespace Go.Proofs.Ytodedneanlekdaa
set_option linter.unusedSimpArgs false
set_option linter.unusedVariables false
open Go.RowKit

theorem lf_len {E D : List LfE} (h : stripL E = stripL D) : E.length = D.length := by
  have := congrArg List.length h
  rwa [stripL_len, stripL_len] at this
theorem lf_same {E D : List LfE} {i : Nat} {x y : LfE} (h : stripL E = stripL D) (hx : E[i]? = some x) (hy : D[i]? = some y) : x.b.xs = y.b.xs ∧ x.why = y.why := by
  have h3 := congrArg (fun l => l[i]?) h
  simp only [stripL, List.getElem?_map, hx, hy, Option.map_some, Option.some.injEq, Prod.mk.injEq] at h3
  exact h3
set_option maxRecDepth 100000 in
set_option maxHeartbeats 2000000 in
theorem proves_any (p : Pb) (ta ha ba la : Option Addr) (tc hc bc lc : Nat) (w : World) (hP : PbAt w p ta ha ba la tc hc bc lc) :
  Calls Try.prog 6 #[.agg #[.slice ta p.nt tc, .slice ha p.nh hc, .slice ba p.nb bc, .slice la p.nl lc]] w fun e w' => e = .returned (.bool true) ∧ Gr w w' := by
 have G := Gr.refl w
 have hPP := hP
 refine Y.calls 64 Try.func6 rfl rfl ?_
 intro ac F0
 have F : Fr ac 64 [(0, .agg #[.slice ta p.nt tc, .slice ha p.nh hc, .slice ba p.nb bc, .slice la p.nl lc])] := F0.sub _
 clear F0
 refine Y.sl ?_
 have hgs3 : w.heap.size ≤ w.heap.size := G.size
 refine Y.pv F (X.box rfl (F.ev 0 (.agg #[.slice ta p.nt tc, .slice ha p.nh hc, .slice ba p.nb bc, .slice la p.nl lc])) X.bx) ?_;clear F ac;intro ac F
 have hgs5 : w.heap.size ≤ w.heap.size := G.size
 obtain ⟨w6, hw_, g, hb, hbl, hC2⟩ := Y.bxd (RCells.nil w) #[.slice ta p.nt tc, .slice ha p.nh hc, .slice ba p.nb bc, .slice la p.nl lc] 27;rw [hw_];clear hw_
 replace G := G.trans g
 have hC := hC2
 clear hC2
 replace hPP := hPP.gr g
 have hsz4 := hbl
 clear g hb hbl
 refine Y.pv F (X.assign rfl (X.kc (.bool false) rfl)) ?_;clear F ac;intro ac F
 refine Y.nt F [(1, Vp w.heap.size)] ?_;clear F ac;intro ac F
 refine Y.seq ?_
 refine Y.sl ?_
 refine Y.pv F (X.load rfl (F.ev 1 (Vp w.heap.size)) (X.ldN (Try.agg27 _) (Try.siz27 _) (Y.atz (⟨w.heap.size, 0, none⟩) (Y.AtFrom.cons (hC.at 0 rfl) (Y.AtFrom.cons (hC.at 1 rfl) (Y.AtFrom.cons (hC.at 2 rfl) (Y.AtFrom.cons (hC.at 3 rfl) (Y.AtFrom.nil _ _ _)))))))) ?_;clear F ac;intro ac F
 refine Y.pc F 21 (X.a1 (F.ev 8 (.agg #[.slice ta p.nt tc, .slice ha p.nh hc, .slice ba p.nb bc, .slice la p.nl lc]))) Try.func21 (large_any p ta ha ba la tc hc bc lc w6 hPP) ?_
 clear F ac
 rintro e w7 ⟨rfl, g⟩
 refine ⟨_, rfl, ?_⟩
 intro ac F
 replace G := G.trans g
 replace hC := hC.gr g
 replace hPP := hPP.gr g
 clear g
 refine Y.nt F [(1, Vp w.heap.size), (9, .bool (largeB p))] ?_;clear F ac;intro ac F
 cases h8 : largeB p with
 | false =>
  try rw [h8] at F
  have hz : SmlP p := large_sz h8
  have hlg := large_pl h8
  refine Y.condF (F.ev 9 (.bool false)) ?_
  refine Y.skip ?_
  refine X.thenN ?_
  refine Y.sl ?_
  refine Y.pv F (X.load rfl (F.ev 1 (Vp w.heap.size)) (X.ldN (Try.agg27 _) (Try.siz27 _) (Y.atz (⟨w.heap.size, 0, none⟩) (Y.AtFrom.cons (hC.at 0 rfl) (Y.AtFrom.cons (hC.at 1 rfl) (Y.AtFrom.cons (hC.at 2 rfl) (Y.AtFrom.cons (hC.at 3 rfl) (Y.AtFrom.nil _ _ _)))))))) ?_;clear F ac;intro ac F
  refine Y.pc F 17 (X.a1 (F.ev 12 (.agg #[.slice ta p.nt tc, .slice ha p.nh hc, .slice ba p.nb bc, .slice la p.nl lc]))) Try.func17 (copy_any p ta ha ba la tc hc bc lc w7 hPP hz) ?_
  clear F ac
  rintro e w10 ⟨ta9, ha9, ba9, la9, tc9, hc9, bc9, lc9, rfl, hO9, g⟩
  have hQ9 := hO9.at hz
  refine ⟨_, rfl, ?_⟩
  intro ac F
  replace G := G.trans g
  replace hC := hC.gr g
  replace hPP := hPP.gr g
  clear g
  refine Y.pc F 30 (X.a1 (F.ev 13 (.agg #[.slice ta9 p.nt tc9, .slice ha9 p.nh hc9, .slice ba9 p.nb bc9, .slice la9 p.nl lc9]))) Try.func30 (prove_any p ta9 ha9 ba9 la9 tc9 hc9 bc9 lc9 hlg w10 hQ9) ?_
  clear F ac
  rintro e w12 ⟨ra11, rc11, E11, rfl, hr11, hm11, hl11, g⟩
  refine ⟨_, rfl, ?_⟩
  intro ac F
  replace G := G.trans g
  replace hC := hC.gr g
  replace hPP := hPP.gr g
  replace hQ9 := hQ9.gr g
  replace hO9 := hO9.gr g
  clear g
  refine Y.pv4 F (X.move rfl (F.ev 14 (.tuple #[.slice ra11 E11.length rc11, Vi (chkE p)]))) (fun _ F=>X.extract rfl (F.ev 11 (.tuple #[.slice ra11 E11.length rc11, Vi (chkE p)])) rfl) (fun _ F=>X.extract rfl (F.ev 11 (.tuple #[.slice ra11 E11.length rc11, Vi (chkE p)])) rfl) (fun _ F=>X.assign rfl (F.ev 15 (.slice ra11 E11.length rc11))) ?_;clear F ac;intro ac F
  refine Y.pv F (X.assign rfl (F.ev 16 (Vi (chkE p)))) ?_;clear F ac;intro ac F
  refine Y.nt F [(1, Vp w.heap.size), (3, .slice ra11 E11.length rc11), (4, Vi (chkE p))] ?_;clear F ac;intro ac F
  refine Y.sl ?_
  refine Y.pv F (X.load rfl (F.ev 1 (Vp w.heap.size)) (X.ldN (Try.agg27 _) (Try.siz27 _) (Y.atz (⟨w.heap.size, 0, none⟩) (Y.AtFrom.cons (hC.at 0 rfl) (Y.AtFrom.cons (hC.at 1 rfl) (Y.AtFrom.cons (hC.at 2 rfl) (Y.AtFrom.cons (hC.at 3 rfl) (Y.AtFrom.nil _ _ _)))))))) ?_;clear F ac;intro ac F
  refine Y.pc F 31 (X.a1 (F.ev 18 (.agg #[.slice ta p.nt tc, .slice ha p.nh hc, .slice ba p.nb bc, .slice la p.nl lc]))) Try.func31 (proveR_any p ta ha ba la tc hc bc lc hlg w12 hPP) ?_
  clear F ac
  rintro e w14 ⟨ra13, rc13, E13, rfl, hr13, hm13, hl13, g⟩
  refine ⟨_, rfl, ?_⟩
  intro ac F
  replace G := G.trans g
  replace hC := hC.gr g
  replace hPP := hPP.gr g
  replace hQ9 := hQ9.gr g
  replace hO9 := hO9.gr g
  replace hr11 := hr11.gr g
  clear g
  have hEq := lf_len (hm11.trans hm13.symm)
  refine Y.pv4 F (X.move rfl (F.ev 19 (.tuple #[.slice ra13 E13.length rc13, Vi (chkE p)]))) (fun _ F=>X.extract rfl (F.ev 17 (.tuple #[.slice ra13 E13.length rc13, Vi (chkE p)])) rfl) (fun _ F=>X.extract rfl (F.ev 17 (.tuple #[.slice ra13 E13.length rc13, Vi (chkE p)])) rfl) (fun _ F=>X.assign rfl (F.ev 20 (.slice ra13 E13.length rc13))) ?_;clear F ac;intro ac F
  refine Y.pv F (X.assign rfl (F.ev 21 (Vi (chkE p)))) ?_;clear F ac;intro ac F
  refine Y.nt F [(3, .slice ra11 E11.length rc11), (4, Vi (chkE p)), (5, .slice ra13 E13.length rc13), (6, Vi (chkE p))] ?_;clear F ac;intro ac F
  refine Y.seq ?_
  refine Y.sl ?_
  refine Y.pv4 F (X.move rfl (F.ev 3 (.slice ra11 E11.length rc11))) (fun _ F=>X.len1 Try.underlying45 rfl (F.ev 22 (.slice ra11 E11.length rc11))) (fun _ F=>X.move rfl (F.ev 5 (.slice ra13 E13.length rc13))) (fun _ F=>X.len1 Try.underlying45 rfl (F.ev 24 (.slice ra13 E13.length rc13))) ?_;clear F ac;intro ac F
  refine Y.pv2 F (X.binop rfl (F.ev 23 (Vi E11.length)) (F.ev 25 (Vi E13.length)) (X.neqI Try.underlying3 rfl)) (fun _ F=>X.move rfl (F.ev 26 (.bool ((E11.length : Int) != E13.length)))) ?_;clear F ac;intro ac F
  cases h15 : ((E11.length : Int) != E13.length) with
  | false =>
   try rw [h15] at F
   have h15p : (E11.length : Int) = E13.length := by simpa using h15
   refine Y.pg F 5 27 false (X.move rfl (F.ev 4 (Vi (chkE p)))) ?_;clear F ac;intro ac F
   refine Y.pg F 5 27 false (X.move rfl (F.ev 6 (Vi (chkE p)))) ?_;clear F ac;intro ac F
   refine Y.pg F 5 27 false (X.binop rfl (F.ev 28 (Vi (chkE p))) (F.ev 29 (Vi (chkE p))) (X.neqI Try.underlying31 (show ((chkE p : Int) != (chkE p)) = false by simp))) ?_;clear F ac;intro ac F
   refine Y.pv F (X.pickF rfl (F.ev 27 (.bool false)) (F.ev 30 (.bool false))) ?_;clear F ac;intro ac F
   refine Y.nt F [(3, .slice ra11 E11.length rc11), (5, .slice ra13 E13.length rc13), (31, .bool false)] ?_;clear F ac;intro ac F
   refine Y.condF (F.ev 31 (.bool false)) ?_
   refine Y.skip ?_
   refine X.thenN ?_
   refine Y.seq ?_
   refine Y.sg F [(3, .slice ra11 E11.length rc11), (5, .slice ra13 E13.length rc13), (7, Vi 0)] (Y.pv F (X.assign rfl (X.kc (Vi 0) rfl)) fun ac F=>Y.fin F) ?_;clear F ac;intro ac F
   refine Y.block ?_
   refine Y.loop (fun me_ ac wr => ∃ (i : Nat), me_ = E11.length - i ∧ Only (fun b => False) w14 wr ∧ i ≤ E11.length ∧ Fr ac 64 [(3, .slice ra11 E11.length rc11), (5, .slice ra13 E13.length rc13), (7, Vi i)]) _ ⟨0, rfl, Only.refl _ _, Nat.zero_le _, F.sub _⟩ ?_
   have hPPB1 := hPP
   have hQ9B1 := hQ9
   have hO9B1 := hO9
   have hr11B1 := hr11
   have hr13B1 := hr13
   have GB1 := G
   have hCB1 := hC
   clear F ac
   intro me_ ac w16 hI
   obtain ⟨i, rfl, hO1, hi, F⟩ := hI
   replace G := GB1.trans (hO1.gr (fun _ _ h => h))
   replace hPP := hPPB1.gr (hO1.gr (fun _ _ h => h))
   replace hQ9 := hQ9B1.gr (hO1.gr (fun _ _ h => h))
   replace hO9 := hO9B1.gr (hO1.gr (fun _ _ h => h))
   replace hr11 := hr11B1.gr (hO1.gr (fun _ _ h => h))
   replace hr13 := hr13B1.gr (hO1.gr (fun _ _ h => h))
   replace hC := (RCells.cons (hO1.cell (hCB1.at 0 rfl) (fun h => h)) (RCells.cons (hO1.cell (hCB1.at 1 rfl) (fun h => h)) (RCells.cons (hO1.cell (hCB1.at 2 rfl) (fun h => h)) (RCells.cons (hO1.cell (hCB1.at 3 rfl) (fun h => h)) (RCells.nil _)))))
   refine Y.seq ?_
   refine Y.sg F [(3, .slice ra11 E11.length rc11), (5, .slice ra13 E13.length rc13), (7, Vi i), (35, .bool (decide ((i : Int) < E11.length)))] (Y.pv F (X.move rfl (F.ev 7 (Vi i))) fun ac F=>Y.pv F (X.move rfl (F.ev 3 (.slice ra11 E11.length rc11))) fun ac F=>Y.pv F (X.len1 Try.underlying45 rfl (F.ev 33 (.slice ra11 E11.length rc11))) fun ac F=>Y.pv F (X.binop rfl (F.ev 32 (Vi i)) (F.ev 34 (Vi E11.length)) (X.lssI Try.underlying3 rfl)) fun ac F=>Y.fin F) ?_;clear F ac;intro ac F
   cases h17 : decide ((i : Int) < E11.length) with
   | false =>
    try rw [h17] at F
    have h17p : ¬ ((i : Int) < E11.length) := of_decide_eq_false h17
    refine Y.condF (F.ev 35 (.bool false)) ?_
    refine Y.exit ?_
    refine X.thenX (X.thenX (X.blockX (X.thenN ?_)))
    refine Y.sl ?_
    refine Y.pcall F (X.w0 rfl) rfl (X.enter (F := 16) rfl (X.kc (.func (.func 16) #[] #[]) rfl) rfl (enters_of Try.func16 (by kernel_rfl) rfl _)) (works_any w16) ?_
    clear F ac
    rintro e w18 ⟨rfl, g⟩
    refine ⟨_, rfl, ?_⟩
    intro ac F
    replace G := G.trans g
    replace hC := hC.gr g
    replace hPP := hPP.gr g
    replace hQ9 := hQ9.gr g
    replace hO9 := hO9.gr g
    replace hr11 := hr11.gr g
    replace hr13 := hr13.gr g
    clear g
    refine Y.pv F (X.assign rfl (F.ev 63 (.bool true))) ?_;clear F ac;intro ac F
    refine Y.nt F [(2, .bool true)] ?_;clear F ac;intro ac F
    refine Y.ret ?_
    exact Y.ret0 (v := .bool true) F (Y.r1 F) ⟨rfl, G⟩
   | true =>
    try rw [h17] at F
    have h17p : ((i : Int) < E11.length) := of_decide_eq_true h17
    refine Y.condT (F.ev 35 (.bool true)) ?_
    refine Y.skip ?_
    refine X.thenN ?_
    refine Y.seq ?_
    refine Y.block ?_
    refine Y.seq ?_
    obtain ⟨xf19, hxxf19⟩ : ∃ x, E11[i]? = some x := ⟨_, List.getElem?_eq_getElem (by omega)⟩
    obtain ⟨pd19, pe19, pc19, pw19, pI19⟩ := hr11 i xf19 hxxf19
    subst pe19
    replace hC := hC.append (show RCells w16 (Y.cs (pd19.add (i * 2)) [.slice xf19.b.a xf19.b.xs.length xf19.b.c, Vi xf19.why]) from (RCells.cons pc19 (RCells.cons pw19 (RCells.nil _))))
    clear pc19
    obtain ⟨xf20, hxxf20⟩ : ∃ x, E13[i]? = some x := ⟨_, List.getElem?_eq_getElem (by omega)⟩
    obtain ⟨pd20, pe20, pc20, pw20, pI20⟩ := hr13 i xf20 hxxf20
    subst pe20
    replace hC := hC.append (show RCells w16 (Y.cs (pd20.add (i * 2)) [.slice xf20.b.a xf20.b.xs.length xf20.b.c, Vi xf20.why]) from (RCells.cons pc20 (RCells.cons pw20 (RCells.nil _))))
    clear pc20
    cases h21 : ((xf19.why : Int) != xf20.why) with
    | false =>
     try rw [h21] at F
     have h21p : (xf19.why : Int) = xf20.why := by simpa using h21
     have hab := lf_same (hm11.trans hm13.symm) hxxf19 hxxf20
     refine Y.region F [some (.slice (some pd19) E11.length rc11), some (Vi i), some (.pointer (some (pd19.add (i * 2)))), some (.pointer (some (⟨(pd19.add (i * 2)).block, (pd19.add (i * 2)).off + 1, none⟩))), some (Vi xf19.why), some (.slice (some pd20) E13.length rc13), some (Vi i), some (.pointer (some (pd20.add (i * 2)))), some (.pointer (some (⟨(pd20.add (i * 2)).block, (pd20.add (i * 2)).off + 1, none⟩))), some (Vi xf20.why), some (.bool false), some (.bool false), some (.slice (some pd19) E11.length rc11), some (Vi i), some (.pointer (some (pd19.add (i * 2)))), some (.pointer (some (pd19.add (i * 2)))), some (.slice xf19.b.a xf19.b.xs.length xf19.b.c), some (.slice (some pd20) E13.length rc13), some (Vi i), some (.pointer (some (pd20.add (i * 2)))), some (.pointer (some (pd20.add (i * 2)))), some (.slice xf20.b.a xf20.b.xs.length xf20.b.c), some (.bool (decide (xf19.b.xs = xf20.b.xs))), some (.bool (!(decide (xf19.b.xs = xf20.b.xs)))), some (.bool (!(decide (xf19.b.xs = xf20.b.xs))))] [] rfl ⟨by kernel_rfl, of_decide_eq_true (by kernel_rfl), by kernel_rfl, by kernel_rfl, by kernel_rfl⟩ ⟨?_, ?_, ?_, ?_, ?_, ?_, ?_, ?_, ?_, ?_, ?_, ?_, ?_, ?_, ?_, ?_, ?_, ?_, ?_, ?_, ?_, ?_, ?_, ?_, ?_, trivial⟩ ?_
     ·intro ac done u W Sx hR
      exact X.vl (X.move rfl (Sx.ev 3 (.slice (some pd19) E11.length rc11))) hR.st0
     ·intro ac done u W Sx hR
      exact X.vl (X.move rfl (Sx.ev 7 (Vi i))) hR.st0
     ·intro ac done u W Sx hR
      exact X.vl (X.index rfl (Sx.ev 38 (.slice (some pd19) E11.length rc11)) (Sx.ev 39 (Vi i)) (X.idx (k := i) Try.underlying45 (Try.siz49 _) (by omega) (by omega) rfl)) hR.st0
     ·intro ac done u W Sx hR
      exact X.vl (X.field rfl (Sx.ev 40 (.pointer (some (pd19.add (i * 2))))) (X.fld Try.underlying49 rfl (Try.siz3 _) rfl rfl)) hR.st0
     ·intro ac done u W Sx hR
      have g : Gr w16 W := hR.1
      exact X.vl (X.load rfl (Sx.ev 41 (.pointer (some (⟨(pd19.add (i * 2)).block, (pd19.add (i * 2)).off + 1, none⟩)))) (X.ld1 (Try.agg3 _) ((hC.gr g).at 5 rfl))) hR.st0
     ·intro ac done u W Sx hR
      exact X.vl (X.move rfl (Sx.ev 5 (.slice (some pd20) E13.length rc13))) hR.st0
     ·intro ac done u W Sx hR
      exact X.vl (X.move rfl (Sx.ev 7 (Vi i))) hR.st0
     ·intro ac done u W Sx hR
      exact X.vl (X.index rfl (Sx.ev 43 (.slice (some pd20) E13.length rc13)) (Sx.ev 44 (Vi i)) (X.idx (k := i) Try.underlying45 (Try.siz49 _) (by omega) (by omega) rfl)) hR.st0
     ·intro ac done u W Sx hR
      exact X.vl (X.field rfl (Sx.ev 45 (.pointer (some (pd20.add (i * 2))))) (X.fld Try.underlying49 rfl (Try.siz3 _) rfl rfl)) hR.st0
     ·intro ac done u W Sx hR
      have g : Gr w16 W := hR.1
      exact X.vl (X.load rfl (Sx.ev 46 (.pointer (some (⟨(pd20.add (i * 2)).block, (pd20.add (i * 2)).off + 1, none⟩)))) (X.ld1 (Try.agg3 _) ((hC.gr g).at 7 rfl))) hR.st0
     ·intro ac done u W Sx hR
      exact X.vl (X.binop rfl (Sx.ev 42 (Vi xf19.why)) (Sx.ev 47 (Vi xf20.why)) (X.neqI Try.underlying3 h21)) hR.st0
     ·intro ac done u W Sx hR
      exact X.vl (X.move rfl (Sx.ev 48 (.bool false))) hR.st0
     ·intro ac done u W Sx hR
      exact X.val (X.w1 rfl (Sx.yl 11 49 false (by kernel_rfl) rfl rfl)) rfl (X.move rfl (Sx.ev 3 (.slice (some pd19) E11.length rc11))) hR.st0
     ·intro ac done u W Sx hR
      exact X.val (X.w1 rfl (Sx.yl 11 49 false (by kernel_rfl) rfl rfl)) rfl (X.move rfl (Sx.ev 7 (Vi i))) hR.st0
     ·intro ac done u W Sx hR
      exact X.val (X.w1 rfl (Sx.yl 11 49 false (by kernel_rfl) rfl rfl)) rfl (X.index rfl (Sx.ev 50 (.slice (some pd19) E11.length rc11)) (Sx.ev 51 (Vi i)) (X.idx (k := i) Try.underlying45 (Try.siz49 _) (by omega) (by omega) rfl)) hR.st0
     ·intro ac done u W Sx hR
      exact X.val (X.w1 rfl (Sx.yl 11 49 false (by kernel_rfl) rfl rfl)) rfl (X.field rfl (Sx.ev 52 (.pointer (some (pd19.add (i * 2))))) (X.fld Try.underlying49 rfl (Try.siz34 _) rfl rfl)) hR.st0
     ·intro ac done u W Sx hR
      have g : Gr w16 W := hR.1
      exact X.val (X.w1 rfl (Sx.yl 11 49 false (by kernel_rfl) rfl rfl)) rfl (X.load rfl (Sx.ev 53 (.pointer (some (pd19.add (i * 2))))) (X.ld1 (Try.agg34 _) ((hC.gr g).at 4 rfl))) hR.st0
     ·intro ac done u W Sx hR
      exact X.val (X.w1 rfl (Sx.yl 11 49 false (by kernel_rfl) rfl rfl)) rfl (X.move rfl (Sx.ev 5 (.slice (some pd20) E13.length rc13))) hR.st0
     ·intro ac done u W Sx hR
      exact X.val (X.w1 rfl (Sx.yl 11 49 false (by kernel_rfl) rfl rfl)) rfl (X.move rfl (Sx.ev 7 (Vi i))) hR.st0
     ·intro ac done u W Sx hR
      exact X.val (X.w1 rfl (Sx.yl 11 49 false (by kernel_rfl) rfl rfl)) rfl (X.index rfl (Sx.ev 55 (.slice (some pd20) E13.length rc13)) (Sx.ev 56 (Vi i)) (X.idx (k := i) Try.underlying45 (Try.siz49 _) (by omega) (by omega) rfl)) hR.st0
     ·intro ac done u W Sx hR
      exact X.val (X.w1 rfl (Sx.yl 11 49 false (by kernel_rfl) rfl rfl)) rfl (X.field rfl (Sx.ev 57 (.pointer (some (pd20.add (i * 2))))) (X.fld Try.underlying49 rfl (Try.siz34 _) rfl rfl)) hR.st0
     ·intro ac done u W Sx hR
      have g : Gr w16 W := hR.1
      exact X.val (X.w1 rfl (Sx.yl 11 49 false (by kernel_rfl) rfl rfl)) rfl (X.load rfl (Sx.ev 58 (.pointer (some (pd20.add (i * 2))))) (X.ld1 (Try.agg34 _) ((hC.gr g).at 6 rfl))) hR.st0
     ·intro ac done u W Sx hR
      have g : Gr w16 W := hR.1
      refine X.call (X.w1 rfl (Sx.yl 11 49 false (by kernel_rfl) rfl rfl)) (X.enter (F := 24) rfl (X.kc (.func (.func 24) #[] #[]) rfl) (X.a2 (Sx.ev 54 (.slice xf19.b.a xf19.b.xs.length xf19.b.c)) (Sx.ev 59 (.slice xf20.b.a xf20.b.xs.length xf20.b.c))) (enters_of Try.func24 (by kernel_rfl) rfl _)) (same_any xf19.b.a xf20.b.a xf19.b.c xf20.b.c xf19.b.xs xf20.b.xs W (pI19.gr g) (pI20.gr g)) ?_
      rintro e W2 ⟨rfl, g2⟩
      exact ⟨_, rfl, X.kn rfl, hR.step g2 rfl⟩
     ·intro ac done u W Sx hR
      exact X.val (X.w1 rfl (Sx.yl 11 49 false (by kernel_rfl) rfl rfl)) rfl (X.notB rfl (Sx.ev 60 (.bool (decide (xf19.b.xs = xf20.b.xs)))) rfl) hR.st0
     ·intro ac done u W Sx hR
      exact X.vl (X.pickF rfl (Sx.ev 49 (.bool false)) (Sx.ev 61 (.bool (!(decide (xf19.b.xs = xf20.b.xs)))))) hR.st0
     intro ac u w22 hs hd hl ho hR
     have g : Gr w16 w22 := hR.1
     replace F : Fr ac 64 [(3, .slice (some pd19) E11.length rc11), (5, .slice (some pd20) E13.length rc13), (7, Vi i), (62, .bool (!(decide (xf19.b.xs = xf20.b.xs))))] := X.fr hs hd hl _ (by kernel_rfl)
     clear hs hd hl ho hR
     replace G := G.trans g
     replace hC := hC.gr g
     replace hO1 := hO1.thenGr g
     replace hPP := hPP.gr g
     replace hQ9 := hQ9.gr g
     replace hO9 := hO9.gr g
     replace hr11 := hr11.gr g
     replace hr13 := hr13.gr g
     replace pI19 := pI19.gr g
     replace pI20 := pI20.gr g
     clear g
     refine X.thenN ?_
     cases h23 : decide (xf19.b.xs = xf20.b.xs) with
     | false =>
      try rw [h23] at F
      refine Y.condT (F.ev 62 (.bool true)) ?_
      refine Y.sg F [(2, .bool false)] (Y.pv F (X.assign rfl (X.kc (.bool false) rfl)) fun ac F=>Y.fin F) ?_;clear F ac;intro ac F
      refine Y.ret ?_
      refine X.blockR (X.thenR (X.thenR (X.blockR (X.thenR ?_))))
      exact absurd hab.1 (of_decide_eq_false h23)
     | true =>
      try rw [h23] at F
      refine Y.condF (F.ev 62 (.bool false)) ?_
      refine Y.skip ?_
      refine X.blockN (X.thenN ?_)
      refine Y.lg F [(3, .slice (some pd19) E11.length rc11), (5, .slice (some pd20) E13.length rc13), (7, Vi ((i : Int) + 1))] (by
       refine Y.pv F (X.move rfl (F.ev 7 (Vi i))) fun ac F=>?_
       refine Y.pv F (X.binop rfl (F.ev 36 (Vi i)) (X.kc (Vi 1) rfl) (X.addI Try.underlying3 rfl (by omega) (by omega))) fun ac F=>?_
       refine Y.pv F (X.assign rfl (F.ev 37 (Vi ((i : Int) + 1)))) fun ac F=>?_
       exact Y.fin F) ?_;clear F ac;intro ac F
      refine ⟨_, ?_, i + 1, rfl, hO1, by omega, F.sub _⟩
      omega
    | true =>
     try rw [h21] at F
     have h21p : ¬ (xf19.why : Int) = xf20.why := by simpa using h21
     have hab := lf_same (hm11.trans hm13.symm) hxxf19 hxxf20
     refine Y.region F [some (.slice (some pd19) E11.length rc11), some (Vi i), some (.pointer (some (pd19.add (i * 2)))), some (.pointer (some (⟨(pd19.add (i * 2)).block, (pd19.add (i * 2)).off + 1, none⟩))), some (Vi xf19.why), some (.slice (some pd20) E13.length rc13), some (Vi i), some (.pointer (some (pd20.add (i * 2)))), some (.pointer (some (⟨(pd20.add (i * 2)).block, (pd20.add (i * 2)).off + 1, none⟩))), some (Vi xf20.why), some (.bool true), some (.bool true), none, none, none, none, none, none, none, none, none, none, none, none, some (.bool true)] [] rfl ⟨by kernel_rfl, of_decide_eq_true (by kernel_rfl), by kernel_rfl, by kernel_rfl, by kernel_rfl⟩ ⟨?_, ?_, ?_, ?_, ?_, ?_, ?_, ?_, ?_, ?_, ?_, ?_, ?_, ?_, ?_, ?_, ?_, ?_, ?_, ?_, ?_, ?_, ?_, ?_, ?_, trivial⟩ ?_
     ·intro ac done u W Sx hR
      exact X.vl (X.move rfl (Sx.ev 3 (.slice (some pd19) E11.length rc11))) hR.st0
     ·intro ac done u W Sx hR
      exact X.vl (X.move rfl (Sx.ev 7 (Vi i))) hR.st0
     ·intro ac done u W Sx hR
      exact X.vl (X.index rfl (Sx.ev 38 (.slice (some pd19) E11.length rc11)) (Sx.ev 39 (Vi i)) (X.idx (k := i) Try.underlying45 (Try.siz49 _) (by omega) (by omega) rfl)) hR.st0
     ·intro ac done u W Sx hR
      exact X.vl (X.field rfl (Sx.ev 40 (.pointer (some (pd19.add (i * 2))))) (X.fld Try.underlying49 rfl (Try.siz3 _) rfl rfl)) hR.st0
     ·intro ac done u W Sx hR
      have g : Gr w16 W := hR.1
      exact X.vl (X.load rfl (Sx.ev 41 (.pointer (some (⟨(pd19.add (i * 2)).block, (pd19.add (i * 2)).off + 1, none⟩)))) (X.ld1 (Try.agg3 _) ((hC.gr g).at 5 rfl))) hR.st0
     ·intro ac done u W Sx hR
      exact X.vl (X.move rfl (Sx.ev 5 (.slice (some pd20) E13.length rc13))) hR.st0
     ·intro ac done u W Sx hR
      exact X.vl (X.move rfl (Sx.ev 7 (Vi i))) hR.st0
     ·intro ac done u W Sx hR
      exact X.vl (X.index rfl (Sx.ev 43 (.slice (some pd20) E13.length rc13)) (Sx.ev 44 (Vi i)) (X.idx (k := i) Try.underlying45 (Try.siz49 _) (by omega) (by omega) rfl)) hR.st0
     ·intro ac done u W Sx hR
      exact X.vl (X.field rfl (Sx.ev 45 (.pointer (some (pd20.add (i * 2))))) (X.fld Try.underlying49 rfl (Try.siz3 _) rfl rfl)) hR.st0
     ·intro ac done u W Sx hR
      have g : Gr w16 W := hR.1
      exact X.vl (X.load rfl (Sx.ev 46 (.pointer (some (⟨(pd20.add (i * 2)).block, (pd20.add (i * 2)).off + 1, none⟩)))) (X.ld1 (Try.agg3 _) ((hC.gr g).at 7 rfl))) hR.st0
     ·intro ac done u W Sx hR
      exact X.vl (X.binop rfl (Sx.ev 42 (Vi xf19.why)) (Sx.ev 47 (Vi xf20.why)) (X.neqI Try.underlying3 h21)) hR.st0
     ·intro ac done u W Sx hR
      exact X.vl (X.move rfl (Sx.ev 48 (.bool true))) hR.st0
     ·intro ac done u W Sx hR
      exact X.skip (X.w2 rfl (Sx.yl 11 49 true (by kernel_rfl) rfl rfl) rfl) rfl (hR.skip rfl)
     ·intro ac done u W Sx hR
      exact X.skip (X.w2 rfl (Sx.yl 11 49 true (by kernel_rfl) rfl rfl) rfl) rfl (hR.skip rfl)
     ·intro ac done u W Sx hR
      exact X.skip (X.w2 rfl (Sx.yl 11 49 true (by kernel_rfl) rfl rfl) rfl) rfl (hR.skip rfl)
     ·intro ac done u W Sx hR
      exact X.skip (X.w2 rfl (Sx.yl 11 49 true (by kernel_rfl) rfl rfl) rfl) rfl (hR.skip rfl)
     ·intro ac done u W Sx hR
      exact X.skip (X.w2 rfl (Sx.yl 11 49 true (by kernel_rfl) rfl rfl) rfl) rfl (hR.skip rfl)
     ·intro ac done u W Sx hR
      exact X.skip (X.w2 rfl (Sx.yl 11 49 true (by kernel_rfl) rfl rfl) rfl) rfl (hR.skip rfl)
     ·intro ac done u W Sx hR
      exact X.skip (X.w2 rfl (Sx.yl 11 49 true (by kernel_rfl) rfl rfl) rfl) rfl (hR.skip rfl)
     ·intro ac done u W Sx hR
      exact X.skip (X.w2 rfl (Sx.yl 11 49 true (by kernel_rfl) rfl rfl) rfl) rfl (hR.skip rfl)
     ·intro ac done u W Sx hR
      exact X.skip (X.w2 rfl (Sx.yl 11 49 true (by kernel_rfl) rfl rfl) rfl) rfl (hR.skip rfl)
     ·intro ac done u W Sx hR
      exact X.skip (X.w2 rfl (Sx.yl 11 49 true (by kernel_rfl) rfl rfl) rfl) rfl (hR.skip rfl)
     ·intro ac done u W Sx hR
      exact X.skip (X.w2 rfl (Sx.yl 11 49 true (by kernel_rfl) rfl rfl) rfl) rfl (hR.skip rfl)
     ·intro ac done u W Sx hR
      exact X.skip (X.w2 rfl (Sx.yl 11 49 true (by kernel_rfl) rfl rfl) rfl) rfl (hR.skip rfl)
     ·intro ac done u W Sx hR
      exact X.vl (X.pickT rfl (Sx.ev 49 (.bool true)) (X.kc (.bool true) rfl)) hR.st0
     intro ac u w24 hs hd hl ho hR
     have g : Gr w16 w24 := hR.1
     replace F : Fr ac 64 [(3, .slice (some pd19) E11.length rc11), (5, .slice (some pd20) E13.length rc13), (7, Vi i), (62, .bool true)] := X.fr hs hd hl _ (by kernel_rfl)
     clear hs hd hl ho hR
     replace G := G.trans g
     replace hC := hC.gr g
     replace hO1 := hO1.thenGr g
     replace hPP := hPP.gr g
     replace hQ9 := hQ9.gr g
     replace hO9 := hO9.gr g
     replace hr11 := hr11.gr g
     replace hr13 := hr13.gr g
     replace pI19 := pI19.gr g
     replace pI20 := pI20.gr g
     clear g
     refine X.thenN ?_
     refine Y.condT (F.ev 62 (.bool true)) ?_
     refine Y.sg F [(2, .bool false)] (Y.pv F (X.assign rfl (X.kc (.bool false) rfl)) fun ac F=>Y.fin F) ?_;clear F ac;intro ac F
     refine Y.ret ?_
     refine X.blockR (X.thenR (X.thenR (X.blockR (X.thenR ?_))))
     exact absurd hab.2 (by simpa using h21)
  | true =>
   try rw [h15] at F
   have h15p : ¬ (E11.length : Int) = E13.length := by simpa using h15
   refine Y.ps F 5 27 true ?_;clear F ac;intro ac F
   refine Y.ps F 5 27 true ?_;clear F ac;intro ac F
   refine Y.ps F 5 27 true ?_;clear F ac;intro ac F
   refine Y.pv F (X.pickT rfl (F.ev 27 (.bool true)) (X.kc (.bool true) rfl)) ?_;clear F ac;intro ac F
   refine Y.nt F [(3, .slice ra11 E11.length rc11), (5, .slice ra13 E13.length rc13), (31, .bool true)] ?_;clear F ac;intro ac F
   refine Y.condT (F.ev 31 (.bool true)) ?_
   refine Y.sg F [(2, .bool false)] (Y.pv F (X.assign rfl (X.kc (.bool false) rfl)) fun ac F=>Y.fin F) ?_;clear F ac;intro ac F
   refine Y.ret ?_
   refine X.thenR ?_
   exfalso; omega
 | true =>
  try rw [h8] at F
  refine Y.condT (F.ev 9 (.bool true)) ?_
  refine Y.sl ?_
  refine Y.pcall F (X.w0 rfl) rfl (X.enter (F := 16) rfl (X.kc (.func (.func 16) #[] #[]) rfl) rfl (enters_of Try.func16 (by kernel_rfl) rfl _)) (works_any w7) ?_
  clear F ac
  rintro e w25 ⟨rfl, g⟩
  refine ⟨_, rfl, ?_⟩
  intro ac F
  replace G := G.trans g
  replace hC := hC.gr g
  replace hPP := hPP.gr g
  clear g
  refine Y.pv F (X.assign rfl (F.ev 10 (.bool true))) ?_;clear F ac;intro ac F
  refine Y.nt F [(2, .bool true)] ?_;clear F ac;intro ac F
  refine Y.ret ?_
  refine X.thenR ?_
  exact Y.ret0 (v := .bool true) F (Y.r1 F) ⟨rfl, G⟩
end Go.Proofs.Ytodedneanlekdaa
