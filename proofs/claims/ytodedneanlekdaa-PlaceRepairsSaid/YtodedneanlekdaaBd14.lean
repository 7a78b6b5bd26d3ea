/- Several texts of this claim in one file. (1) Contracts: the reference's Allowed, Cost, Hopeless, Bound. (2) Contracts: with, all (reference). (3) Contracts: the reference's first, Best. (4) Contract: sorted. (5) Contracts: the reference's List, Count. -/
import Derived.Test.YtodedneanlekdaaBd13
import Derived.Test.YtodedneanlekdaaBd12
import Derived.Test.YtodedneanlekdaaBd11
namespace Go.Proofs.Ytodedneanlekdaa
set_option linter.unusedSimpArgs false
set_option linter.unusedVariables false
section
open Go.RowKit

set_option maxRecDepth 100000 in
set_option maxHeartbeats 1000000 in
theorem begin_any (p : Pb) (ta ha ba la : Option Addr) (tc hc bc lc : Nat) (a : Option Addr) (c : Nat) (xs : List Int) (w : World) (hP : PbAt w p ta ha ba la tc hc bc lc) (hX : Ints w a xs.length xs) :
  Calls Try.prog 78 #[.agg #[.slice ta p.nt tc, .slice ha p.nh hc, .slice ba p.nb bc, .slice la p.nl lc], .slice a xs.length c] w fun e w' => e = .returned (Vi (begE p xs)) ∧ Gr w w' := by
 have G := Gr.refl w
 have hpt := hP.t
 have hph := hP.h
 have hpb := hP.b
 have hpl := hP.l
 have hplen := hP.len
 obtain ⟨hn1, hn2, hn3, hn4⟩ := hplen
 have hcp1 := hpt.cap
 have hcp2 := hph.cap
 have hcp3 := hpb.cap
 have hcp4 := hpl.cap
 have hxs := hX
 have hlt := hxs.lt
 refine Y.calls 31 Try.func78 rfl rfl ?_
 intro ac F0
 have F : Fr ac 31 [(0, .agg #[.slice ta p.nt tc, .slice ha p.nh hc, .slice ba p.nb bc, .slice la p.nl lc]), (1, .slice a xs.length c)] := F0.sub _
 clear F0
 refine Y.sl ?_
 have hgs3 : w.heap.size ≤ w.heap.size := G.size
 refine Y.pv F (X.box rfl (F.ev 0 (.agg #[.slice ta p.nt tc, .slice ha p.nh hc, .slice ba p.nb bc, .slice la p.nl lc])) X.bx) ?_;clear F ac;intro ac F
 have hgs5 : w.heap.size ≤ w.heap.size := G.size
 obtain ⟨w6, hw_, g, hb, hbl, hC2⟩ := Y.bxd (RCells.nil w) #[.slice ta p.nt tc, .slice ha p.nh hc, .slice ba p.nb bc, .slice la p.nl lc] 27;rw [hw_];clear hw_
 replace G := G.trans g
 have hC := hC2
 clear hC2
 replace hpt := hpt.gr g
 replace hph := hph.gr g
 replace hpb := hpb.gr g
 replace hpl := hpl.gr g
 replace hxs := hxs.gr g
 have hsz4 := hbl
 clear g hb hbl
 refine Y.pv F (X.assign rfl (X.kc (Vi 0) rfl)) ?_;clear F ac;intro ac F
 refine Y.nt F [(1, .slice a xs.length c), (2, Vp w.heap.size)] ?_;clear F ac;intro ac F
 refine Y.sl ?_
 refine Y.pv F (X.load rfl (F.ev 2 (Vp w.heap.size)) (X.ldN (Try.agg27 _) (Try.siz27 _) (Y.atz (⟨w.heap.size, 0, none⟩) (Y.AtFrom.cons (hC.at 0 rfl) (Y.AtFrom.cons (hC.at 1 rfl) (Y.AtFrom.cons (hC.at 2 rfl) (Y.AtFrom.cons (hC.at 3 rfl) (Y.AtFrom.nil _ _ _)))))))) ?_;clear F ac;intro ac F
 refine Y.pc F 19 (X.a1 (F.ev 7 (.agg #[.slice ta p.nt tc, .slice ha p.nh hc, .slice ba p.nb bc, .slice la p.nl lc]))) Try.func19 (check2_any p ta ha ba la tc hc bc lc w6 (hP.gr G)) ?_
 clear F ac
 rintro e w7 ⟨rfl, g⟩
 refine ⟨_, rfl, ?_⟩
 intro ac F
 replace G := G.trans g
 replace hC := hC.gr g
 replace hpt := hpt.gr g
 replace hph := hph.gr g
 replace hpb := hpb.gr g
 replace hpl := hpl.gr g
 replace hxs := hxs.gr g
 clear g
 refine Y.pv F (X.assign rfl (F.ev 8 (Vi (chkE p)))) ?_;clear F ac;intro ac F
 refine Y.nt F [(1, .slice a xs.length c), (2, Vp w.heap.size), (5, Vi (chkE p))] ?_;clear F ac;intro ac F
 refine Y.seq ?_
 refine Y.sg F [(1, .slice a xs.length c), (2, Vp w.heap.size), (5, Vi (chkE p)), (10, .bool ((chkE p : Int) != 0))] (Y.pv F (X.move rfl (F.ev 5 (Vi (chkE p)))) fun ac F=>Y.pv F (X.binop rfl (F.ev 9 (Vi (chkE p))) (X.kc (Vi 0) rfl) (X.neqI Try.underlying31 rfl)) fun ac F=>Y.fin F) ?_;clear F ac;intro ac F
 cases h8 : ((chkE p : Int) != 0) with
 | false =>
  try rw [h8] at F
  have h8p : (chkE p : Int) = 0 := by simpa using h8
  refine Y.condF (F.ev 10 (.bool false)) ?_
  refine Y.skip ?_
  refine X.thenN ?_
  refine Y.seq ?_
  refine Y.sg F [(1, .slice a xs.length c), (2, Vp w.heap.size), (17, .bool (decide ((p.nt : Int) < xs.length)))] (by
   refine Y.pv F (X.move rfl (F.ev 1 (.slice a xs.length c))) fun ac F=>?_
   refine Y.pv F (X.len1 Try.underlying34 rfl (F.ev 12 (.slice a xs.length c))) fun ac F=>?_
   refine Y.pv F (X.field rfl (F.ev 2 (Vp w.heap.size)) (X.fld Try.underlying27 rfl (Try.siz22 _) rfl rfl)) fun ac F=>?_
   refine Y.pv F (X.load rfl (F.ev 14 (Vp w.heap.size)) (X.ld1 (Try.agg22 _) (hC.at 0 rfl))) fun ac F=>?_
   refine Y.pv F (X.len1 Try.underlying22 rfl (F.ev 15 (.slice ta p.nt tc))) fun ac F=>?_
   refine Y.pv F (X.binop rfl (F.ev 13 (Vi xs.length)) (F.ev 16 (Vi p.nt)) (X.gtrI Try.underlying3 rfl)) fun ac F=>?_
   exact Y.fin F) ?_;clear F ac;intro ac F
  cases h9 : decide ((p.nt : Int) < xs.length) with
  | false =>
   try rw [h9] at F
   have h9p : ¬ ((p.nt : Int) < xs.length) := of_decide_eq_false h9
   refine Y.condF (F.ev 17 (.bool false)) ?_
   refine Y.skip ?_
   refine X.thenN ?_
   refine Y.seq ?_
   refine Y.sg F [(1, .slice a xs.length c), (2, Vp w.heap.size), (6, Vi 0)] (Y.pv F (X.assign rfl (X.kc (Vi 0) rfl)) fun ac F=>Y.fin F) ?_;clear F ac;intro ac F
   refine Y.block ?_
   refine Y.loop (fun me_ ac wr => ∃ (i : Nat), me_ = xs.length - i ∧ Only (fun b => False) w7 wr ∧ i ≤ xs.length ∧ allN (fun i => isH p (xg xs i)) i = true ∧ Fr ac 31 [(1, .slice a xs.length c), (2, Vp w.heap.size), (6, Vi i)]) _ ⟨0, rfl, Only.refl _ _, Nat.zero_le _, rfl, F.sub _⟩ ?_
   have hptB1 := hpt
   have hphB1 := hph
   have hpbB1 := hpb
   have hplB1 := hpl
   have hxsB1 := hxs
   have GB1 := G
   have hCB1 := hC
   clear F ac
   intro me_ ac w10 hI
   obtain ⟨i, rfl, hO1, hi0, hok, F⟩ := hI
   replace G := GB1.trans (hO1.gr (fun _ _ h => h))
   replace hpt := (hP.t).gr G
   replace hph := (hP.h).gr G
   replace hpb := (hP.b).gr G
   replace hpl := (hP.l).gr G
   replace hxs := (hX).gr G
   replace hC := (RCells.cons (hO1.cell (hCB1.at 0 rfl) (fun h => h)) (RCells.cons (hO1.cell (hCB1.at 1 rfl) (fun h => h)) (RCells.cons (hO1.cell (hCB1.at 2 rfl) (fun h => h)) (RCells.cons (hO1.cell (hCB1.at 3 rfl) (fun h => h)) (RCells.nil _)))))
   refine Y.seq ?_
   refine Y.sg F [(1, .slice a xs.length c), (2, Vp w.heap.size), (6, Vi i), (21, .bool (decide ((i : Int) < xs.length)))] (Y.pv F (X.move rfl (F.ev 6 (Vi i))) fun ac F=>Y.pv F (X.move rfl (F.ev 1 (.slice a xs.length c))) fun ac F=>Y.pv F (X.len1 Try.underlying34 rfl (F.ev 19 (.slice a xs.length c))) fun ac F=>Y.pv F (X.binop rfl (F.ev 18 (Vi i)) (F.ev 20 (Vi xs.length)) (X.lssI Try.underlying3 rfl)) fun ac F=>Y.fin F) ?_;clear F ac;intro ac F
   cases h11 : decide ((i : Int) < xs.length) with
   | false =>
    try rw [h11] at F
    have h11p : ¬ ((i : Int) < xs.length) := of_decide_eq_false h11
    obtain rfl : i = xs.length := by omega
    refine Y.condF (F.ev 21 (.bool false)) ?_
    refine Y.exit ?_
    refine X.thenX (X.thenX (X.blockX (X.thenN ?_)))
    refine Y.sg F [(4, Vi 0)] (Y.pv F (X.assign rfl (X.kc (Vi 0) rfl)) fun ac F=>Y.fin F) ?_;clear F ac;intro ac F
    refine Y.ret ?_
    exact Y.ret0 (v := Vi 0) F (Y.r1 F) ⟨by rw [beg_3 (by omega) (by omega) hok], G⟩
   | true =>
    try rw [h11] at F
    have h11p : ((i : Int) < xs.length) := of_decide_eq_true h11
    have hi : i < xs.length := by omega
    refine Y.condT (F.ev 21 (.bool true)) ?_
    refine Y.skip ?_
    refine X.thenN ?_
    refine Y.seq ?_
    refine Y.block ?_
    refine Y.seq ?_
    obtain ⟨pd12, pe12, -, pc12⟩ := hxs.at (j := i) (by omega)
    subst pe12
    replace hC := hC.append (show RCells w10 ([(pd12.add i, Vi (xs[i]?.getD 0))]) from (RCells.cons pc12 (RCells.nil _)))
    clear pc12
    refine Y.region F [some (.agg #[.slice ta p.nt tc, .slice ha p.nh hc, .slice ba p.nb bc, .slice la p.nl lc]), some (.slice (some pd12) xs.length c), some (Vi i), some (.pointer (some (pd12.add i))), some (Vi (xs[i]?.getD 0)), some (.bool (isH p (xs[i]?.getD 0))), some (.bool (!(isH p (xs[i]?.getD 0))))] [] rfl ⟨by kernel_rfl, of_decide_eq_true (by kernel_rfl), by kernel_rfl, by kernel_rfl, by kernel_rfl⟩ ⟨?_, ?_, ?_, ?_, ?_, ?_, ?_, trivial⟩ ?_
    ·intro ac done u W Sx hR
     have g : Gr w10 W := hR.1
     exact X.vl (X.load rfl (Sx.ev 2 (Vp w.heap.size)) (X.ldN (Try.agg27 _) (Try.siz27 _) (Y.atz (⟨w.heap.size, 0, none⟩) (Y.AtFrom.cons ((hC.gr g).at 0 rfl) (Y.AtFrom.cons ((hC.gr g).at 1 rfl) (Y.AtFrom.cons ((hC.gr g).at 2 rfl) (Y.AtFrom.cons ((hC.gr g).at 3 rfl) (Y.AtFrom.nil _ _ _)))))))) hR.st0
    ·intro ac done u W Sx hR
     exact X.vl (X.move rfl (Sx.ev 1 (.slice (some pd12) xs.length c))) hR.st0
    ·intro ac done u W Sx hR
     exact X.vl (X.move rfl (Sx.ev 6 (Vi i))) hR.st0
    ·intro ac done u W Sx hR
     exact X.val (X.w0 rfl) rfl (X.index rfl (Sx.ev 25 (.slice (some pd12) xs.length c)) (Sx.ev 26 (Vi i)) (X.idx (k := i) Try.underlying34 (Try.siz3 _) (by omega) (by omega) (by rw [Nat.mul_one]))) hR.st0
    ·intro ac done u W Sx hR
     have g : Gr w10 W := hR.1
     exact X.vl (X.load rfl (Sx.ev 27 (.pointer (some (pd12.add i)))) (X.ld1 (Try.agg3 _) ((hC.gr g).at 4 rfl))) hR.st0
    ·intro ac done u W Sx hR
     refine X.call (X.w0 rfl) (X.enter (F := 62) rfl (X.kc (.func (.func 62) #[] #[]) rfl) (X.a2 (Sx.ev 24 (.agg #[.slice ta p.nt tc, .slice ha p.nh hc, .slice ba p.nb bc, .slice la p.nl lc])) (Sx.ev 28 (Vi (xs[i]?.getD 0)))) (enters_of Try.func62 (by kernel_rfl) rfl _)) (isHost_any p ta ha ba la tc hc bc lc (xs[i]?.getD 0) W) ?_
     rintro e W2 ⟨rfl, g2⟩
     exact ⟨_, rfl, X.kn rfl, hR.step g2 rfl⟩
    ·intro ac done u W Sx hR
     exact X.vl (X.notB rfl (Sx.ev 29 (.bool (isH p (xs[i]?.getD 0)))) rfl) hR.st0
    intro ac u w13 hs hd hl ho hR
    have g : Gr w10 w13 := hR.1
    replace F : Fr ac 31 [(1, .slice (some pd12) xs.length c), (2, Vp w.heap.size), (6, Vi i), (30, .bool (!(isH p (xs[i]?.getD 0))))] := X.fr hs hd hl _ (by kernel_rfl)
    clear hs hd hl ho hR
    replace G := G.trans g
    replace hC := hC.gr g
    replace hO1 := hO1.thenGr g
    replace hpt := hpt.gr g
    replace hph := hph.gr g
    replace hpb := hpb.gr g
    replace hpl := hpl.gr g
    replace hxs := hxs.gr g
    clear g
    refine X.thenN ?_
    cases h14 : isH p (xs[i]?.getD 0) with
    | false =>
     try rw [h14] at F
     refine Y.condT (F.ev 30 (.bool true)) ?_
     refine Y.sg F [(4, Vi 33)] (Y.pv F (X.assign rfl (X.kc (Vi 33) rfl)) fun ac F=>Y.fin F) ?_;clear F ac;intro ac F
     refine Y.ret ?_
     refine X.blockR (X.thenR (X.thenR (X.blockR (X.thenR ?_))))
     exact Y.ret0 (v := Vi 33) F (Y.r1 F) ⟨by rw [beg_2 (by omega) (.inr (allN_false hi h14))], G⟩
    | true =>
     try rw [h14] at F
     refine Y.condF (F.ev 30 (.bool false)) ?_
     refine Y.skip ?_
     refine X.blockN (X.thenN ?_)
     refine Y.lg F [(1, .slice (some pd12) xs.length c), (2, Vp w.heap.size), (6, Vi ((i : Int) + 1))] (by
      refine Y.pv F (X.move rfl (F.ev 6 (Vi i))) fun ac F=>?_
      refine Y.pv F (X.binop rfl (F.ev 22 (Vi i)) (X.kc (Vi 1) rfl) (X.addI Try.underlying3 rfl (by omega) (by omega))) fun ac F=>?_
      refine Y.pv F (X.assign rfl (F.ev 23 (Vi ((i : Int) + 1)))) fun ac F=>?_
      exact Y.fin F) ?_;clear F ac;intro ac F
     refine ⟨_, ?_, i + 1, rfl, hO1, by omega, allN_succ hok h14, F.sub _⟩
     omega
  | true =>
   try rw [h9] at F
   have h9p : ((p.nt : Int) < xs.length) := of_decide_eq_true h9
   refine Y.condT (F.ev 17 (.bool true)) ?_
   refine Y.sg F [(4, Vi 33)] (Y.pv F (X.assign rfl (X.kc (Vi 33) rfl)) fun ac F=>Y.fin F) ?_;clear F ac;intro ac F
   refine Y.ret ?_
   refine X.thenR ?_
   exact Y.ret0 (v := Vi 33) F (Y.r1 F) ⟨by rw [beg_2 (by omega) (.inl (by omega))], G⟩
 | true =>
  try rw [h8] at F
  have h8p : ¬ (chkE p : Int) = 0 := by simpa using h8
  refine Y.condT (F.ev 10 (.bool true)) ?_
  refine Y.sg F [(4, Vi (chkE p))] (Y.pv F (X.move rfl (F.ev 5 (Vi (chkE p)))) fun ac F=>Y.pv F (X.assign rfl (F.ev 11 (Vi (chkE p)))) fun ac F=>Y.fin F) ?_;clear F ac;intro ac F
  refine Y.ret ?_
  refine X.thenR ?_
  exact Y.ret0 (v := Vi (chkE p)) F (Y.r1 F) ⟨by rw [show begE p xs = chkE p from if_pos (by omega)], G⟩
set_option maxRecDepth 100000 in
set_option maxHeartbeats 1000000 in
theorem whole_any (p : Pb) (ta ha ba la : Option Addr) (tc hc bc lc : Nat) (a : Option Addr) (c : Nat) (xs : List Int) (w : World) (hP : PbAt w p ta ha ba la tc hc bc lc) (hX : Ints w a xs.length xs) :
  Calls Try.prog 74 #[.agg #[.slice ta p.nt tc, .slice ha p.nh hc, .slice ba p.nb bc, .slice la p.nl lc], .slice a xs.length c] w fun e w' => e = .returned (Vi (whoE p xs)) ∧ Gr w w' := by
 have G := Gr.refl w
 have hpt := hP.t
 have hph := hP.h
 have hpb := hP.b
 have hpl := hP.l
 have hplen := hP.len
 obtain ⟨hn1, hn2, hn3, hn4⟩ := hplen
 have hcp1 := hpt.cap
 have hcp2 := hph.cap
 have hcp3 := hpb.cap
 have hcp4 := hpl.cap
 have hxs := hX
 have hlt := hxs.lt
 refine Y.calls 18 Try.func74 rfl rfl ?_
 intro ac F0
 have F : Fr ac 18 [(0, .agg #[.slice ta p.nt tc, .slice ha p.nh hc, .slice ba p.nb bc, .slice la p.nl lc]), (1, .slice a xs.length c)] := F0.sub _
 clear F0
 refine Y.sl ?_
 have hgs3 : w.heap.size ≤ w.heap.size := G.size
 refine Y.pv F (X.box rfl (F.ev 0 (.agg #[.slice ta p.nt tc, .slice ha p.nh hc, .slice ba p.nb bc, .slice la p.nl lc])) X.bx) ?_;clear F ac;intro ac F
 have hgs5 : w.heap.size ≤ w.heap.size := G.size
 obtain ⟨w6, hw_, g, hb, hbl, hC2⟩ := Y.bxd (RCells.nil w) #[.slice ta p.nt tc, .slice ha p.nh hc, .slice ba p.nb bc, .slice la p.nl lc] 27;rw [hw_];clear hw_
 replace G := G.trans g
 have hC := hC2
 clear hC2
 replace hpt := hpt.gr g
 replace hph := hph.gr g
 replace hpb := hpb.gr g
 replace hpl := hpl.gr g
 replace hxs := hxs.gr g
 have hsz4 := hbl
 clear g hb hbl
 refine Y.pv F (X.assign rfl (X.kc (Vi 0) rfl)) ?_;clear F ac;intro ac F
 refine Y.nt F [(1, .slice a xs.length c), (2, Vp w.heap.size)] ?_;clear F ac;intro ac F
 refine Y.sl ?_
 refine Y.pv2 F (X.load rfl (F.ev 2 (Vp w.heap.size)) (X.ldN (Try.agg27 _) (Try.siz27 _) (Y.atz (⟨w.heap.size, 0, none⟩) (Y.AtFrom.cons (hC.at 0 rfl) (Y.AtFrom.cons (hC.at 1 rfl) (Y.AtFrom.cons (hC.at 2 rfl) (Y.AtFrom.cons (hC.at 3 rfl) (Y.AtFrom.nil _ _ _)))))))) (fun _ F=>X.move rfl (F.ev 1 (.slice a xs.length c))) ?_;clear F ac;intro ac F
 refine Y.pc F 78 (X.a2 (F.ev 6 (.agg #[.slice ta p.nt tc, .slice ha p.nh hc, .slice ba p.nb bc, .slice la p.nl lc])) (F.ev 7 (.slice a xs.length c))) Try.func78 (begin_any p ta ha ba la tc hc bc lc a c xs w6 (hP.gr G) (hX.gr G)) ?_
 clear F ac
 rintro e w7 ⟨rfl, g⟩
 refine ⟨_, rfl, ?_⟩
 intro ac F
 replace G := G.trans g
 replace hC := hC.gr g
 replace hpt := hpt.gr g
 replace hph := hph.gr g
 replace hpb := hpb.gr g
 replace hpl := hpl.gr g
 replace hxs := hxs.gr g
 clear g
 refine Y.pv F (X.assign rfl (F.ev 8 (Vi (begE p xs)))) ?_;clear F ac;intro ac F
 refine Y.nt F [(1, .slice a xs.length c), (2, Vp w.heap.size), (5, Vi (begE p xs))] ?_;clear F ac;intro ac F
 refine Y.seq ?_
 refine Y.sg F [(1, .slice a xs.length c), (2, Vp w.heap.size), (5, Vi (begE p xs)), (10, .bool ((begE p xs : Int) != 0))] (Y.pv F (X.move rfl (F.ev 5 (Vi (begE p xs)))) fun ac F=>Y.pv F (X.binop rfl (F.ev 9 (Vi (begE p xs))) (X.kc (Vi 0) rfl) (X.neqI Try.underlying31 rfl)) fun ac F=>Y.fin F) ?_;clear F ac;intro ac F
 cases h8 : ((begE p xs : Int) != 0) with
 | false =>
  try rw [h8] at F
  have h8p : (begE p xs : Int) = 0 := by simpa using h8
  refine Y.condF (F.ev 10 (.bool false)) ?_
  refine Y.skip ?_
  refine X.thenN ?_
  refine Y.seq ?_
  refine Y.sg F [(17, .bool (decide ((xs.length : Int) < p.nt)))] (by
   refine Y.pv F (X.move rfl (F.ev 1 (.slice a xs.length c))) fun ac F=>?_
   refine Y.pv F (X.len1 Try.underlying34 rfl (F.ev 12 (.slice a xs.length c))) fun ac F=>?_
   refine Y.pv F (X.field rfl (F.ev 2 (Vp w.heap.size)) (X.fld Try.underlying27 rfl (Try.siz22 _) rfl rfl)) fun ac F=>?_
   refine Y.pv F (X.load rfl (F.ev 14 (Vp w.heap.size)) (X.ld1 (Try.agg22 _) (hC.at 0 rfl))) fun ac F=>?_
   refine Y.pv F (X.len1 Try.underlying22 rfl (F.ev 15 (.slice ta p.nt tc))) fun ac F=>?_
   refine Y.pv F (X.binop rfl (F.ev 13 (Vi xs.length)) (F.ev 16 (Vi p.nt)) (X.lssI Try.underlying3 rfl)) fun ac F=>?_
   exact Y.fin F) ?_;clear F ac;intro ac F
  cases h9 : decide ((xs.length : Int) < p.nt) with
  | false =>
   try rw [h9] at F
   have h9p : ¬ ((xs.length : Int) < p.nt) := of_decide_eq_false h9
   refine Y.condF (F.ev 17 (.bool false)) ?_
   refine Y.skip ?_
   refine X.thenN ?_
   refine Y.sg F [(4, Vi 0)] (Y.pv F (X.assign rfl (X.kc (Vi 0) rfl)) fun ac F=>Y.fin F) ?_;clear F ac;intro ac F
   refine Y.ret ?_
   exact Y.ret0 (v := Vi 0) F (Y.r1 F) ⟨by rw [who_3 (by omega) (by omega)], G⟩
  | true =>
   try rw [h9] at F
   have h9p : ((xs.length : Int) < p.nt) := of_decide_eq_true h9
   refine Y.condT (F.ev 17 (.bool true)) ?_
   refine Y.sg F [(4, Vi 33)] (Y.pv F (X.assign rfl (X.kc (Vi 33) rfl)) fun ac F=>Y.fin F) ?_;clear F ac;intro ac F
   refine Y.ret ?_
   refine X.thenR ?_
   exact Y.ret0 (v := Vi 33) F (Y.r1 F) ⟨by rw [who_2 (by omega) (by omega)], G⟩
 | true =>
  try rw [h8] at F
  have h8p : ¬ (begE p xs : Int) = 0 := by simpa using h8
  refine Y.condT (F.ev 10 (.bool true)) ?_
  refine Y.sg F [(4, Vi (begE p xs))] (Y.pv F (X.move rfl (F.ev 5 (Vi (begE p xs)))) fun ac F=>Y.pv F (X.assign rfl (F.ev 11 (Vi (begE p xs)))) fun ac F=>Y.fin F) ?_;clear F ac;intro ac F
  refine Y.ret ?_
  refine X.thenR ?_
  exact Y.ret0 (v := Vi (begE p xs)) F (Y.r1 F) ⟨by rw [who_1 (by omega)], G⟩
set_option maxRecDepth 100000 in
set_option maxHeartbeats 1000000 in
theorem allowed2_any (p : Pb) (ta ha ba la : Option Addr) (tc hc bc lc : Nat) (a : Option Addr) (c : Nat) (xs : List Int) (w : World) (hP : PbAt w p ta ha ba la tc hc bc lc) (hX : Ints w a xs.length xs) :
  Calls Try.prog 34 #[.agg #[.slice ta p.nt tc, .slice ha p.nh hc, .slice ba p.nb bc, .slice la p.nl lc], .slice a xs.length c] w fun e w' => e = .returned (.tuple #[.bool (allowV p xs), Vi (whoE p xs)]) ∧ Gr w w' := by
 have G := Gr.refl w
 have hpt := hP.t
 have hph := hP.h
 have hpb := hP.b
 have hpl := hP.l
 have hplen := hP.len
 obtain ⟨hn1, hn2, hn3, hn4⟩ := hplen
 have hcp1 := hpt.cap
 have hcp2 := hph.cap
 have hcp3 := hpb.cap
 have hcp4 := hpl.cap
 have hxs := hX
 have hlt := hxs.lt
 refine Y.calls 17 Try.func34 rfl rfl ?_
 intro ac F0
 have F : Fr ac 17 [(0, .agg #[.slice ta p.nt tc, .slice ha p.nh hc, .slice ba p.nb bc, .slice la p.nl lc]), (1, .slice a xs.length c)] := F0.sub _
 clear F0
 refine Y.sl ?_
 have hgs3 : w.heap.size ≤ w.heap.size := G.size
 refine Y.pv F (X.box rfl (F.ev 0 (.agg #[.slice ta p.nt tc, .slice ha p.nh hc, .slice ba p.nb bc, .slice la p.nl lc])) X.bx) ?_;clear F ac;intro ac F
 have hgs5 : w.heap.size ≤ w.heap.size := G.size
 obtain ⟨w6, hw_, g, hb, hbl, hC2⟩ := Y.bxd (RCells.nil w) #[.slice ta p.nt tc, .slice ha p.nh hc, .slice ba p.nb bc, .slice la p.nl lc] 27;rw [hw_];clear hw_
 replace G := G.trans g
 have hC := hC2
 clear hC2
 replace hpt := hpt.gr g
 replace hph := hph.gr g
 replace hpb := hpb.gr g
 replace hpl := hpl.gr g
 replace hxs := hxs.gr g
 have hsz4 := hbl
 clear g hb hbl
 refine Y.pv2 F (X.assign rfl (X.kc (.bool false) rfl)) (fun _ F=>X.assign rfl (X.kc (Vi 0) rfl)) ?_;clear F ac;intro ac F
 refine Y.nt F [(1, .slice a xs.length c), (2, Vp w.heap.size)] ?_;clear F ac;intro ac F
 refine Y.sl ?_
 refine Y.pv2 F (X.load rfl (F.ev 2 (Vp w.heap.size)) (X.ldN (Try.agg27 _) (Try.siz27 _) (Y.atz (⟨w.heap.size, 0, none⟩) (Y.AtFrom.cons (hC.at 0 rfl) (Y.AtFrom.cons (hC.at 1 rfl) (Y.AtFrom.cons (hC.at 2 rfl) (Y.AtFrom.cons (hC.at 3 rfl) (Y.AtFrom.nil _ _ _)))))))) (fun _ F=>X.move rfl (F.ev 1 (.slice a xs.length c))) ?_;clear F ac;intro ac F
 refine Y.pc F 74 (X.a2 (F.ev 7 (.agg #[.slice ta p.nt tc, .slice ha p.nh hc, .slice ba p.nb bc, .slice la p.nl lc])) (F.ev 8 (.slice a xs.length c))) Try.func74 (whole_any p ta ha ba la tc hc bc lc a c xs w6 (hP.gr G) (hX.gr G)) ?_
 clear F ac
 rintro e w7 ⟨rfl, g⟩
 refine ⟨_, rfl, ?_⟩
 intro ac F
 replace G := G.trans g
 replace hC := hC.gr g
 replace hpt := hpt.gr g
 replace hph := hph.gr g
 replace hpb := hpb.gr g
 replace hpl := hpl.gr g
 replace hxs := hxs.gr g
 clear g
 refine Y.pv F (X.assign rfl (F.ev 9 (Vi (whoE p xs)))) ?_;clear F ac;intro ac F
 refine Y.nt F [(1, .slice a xs.length c), (2, Vp w.heap.size), (6, Vi (whoE p xs))] ?_;clear F ac;intro ac F
 refine Y.seq ?_
 refine Y.sg F [(1, .slice a xs.length c), (2, Vp w.heap.size), (6, Vi (whoE p xs)), (11, .bool ((whoE p xs : Int) != 0))] (Y.pv F (X.move rfl (F.ev 6 (Vi (whoE p xs)))) fun ac F=>Y.pv F (X.binop rfl (F.ev 10 (Vi (whoE p xs))) (X.kc (Vi 0) rfl) (X.neqI Try.underlying31 rfl)) fun ac F=>Y.fin F) ?_;clear F ac;intro ac F
 cases h8 : ((whoE p xs : Int) != 0) with
 | false =>
  try rw [h8] at F
  have h8p : (whoE p xs : Int) = 0 := by simpa using h8
  have hbg := (who_ok (p := p) (xs := xs) (by omega)).1
  obtain ⟨-, hp, hlen, hx⟩ := beg_ok hbg
  refine Y.condF (F.ev 11 (.bool false)) ?_
  refine Y.skip ?_
  refine X.thenN ?_
  refine Y.sl ?_
  refine Y.pv2 F (X.load rfl (F.ev 2 (Vp w.heap.size)) (X.ldN (Try.agg27 _) (Try.siz27 _) (Y.atz (⟨w.heap.size, 0, none⟩) (Y.AtFrom.cons (hC.at 0 rfl) (Y.AtFrom.cons (hC.at 1 rfl) (Y.AtFrom.cons (hC.at 2 rfl) (Y.AtFrom.cons (hC.at 3 rfl) (Y.AtFrom.nil _ _ _)))))))) (fun _ F=>X.move rfl (F.ev 1 (.slice a xs.length c))) ?_;clear F ac;intro ac F
  refine Y.pc F 75 (X.a3 (F.ev 13 (.agg #[.slice ta p.nt tc, .slice ha p.nh hc, .slice ba p.nb bc, .slice la p.nl lc])) (F.ev 14 (.slice a xs.length c)) (X.kc (Vi 100) rfl)) Try.func75 (by have hq := hop2_any p ta ha ba la tc hc bc lc a c xs 100 w7 (hP.gr G) (hX.gr G) hp hx hlen (by decide); rw [hund_100] at hq; exact hq) ?_
  clear F ac
  rintro e w9 ⟨rfl, g⟩
  refine ⟨_, rfl, ?_⟩
  intro ac F
  replace G := G.trans g
  replace hC := hC.gr g
  replace hpt := hpt.gr g
  replace hph := hph.gr g
  replace hpb := hpb.gr g
  replace hpl := hpl.gr g
  replace hxs := hxs.gr g
  clear g
  refine Y.pv3 F (X.notB rfl (F.ev 15 (.bool (hopeB p (tim p) xs))) rfl) (fun _ F=>X.assign rfl (F.ev 16 (.bool (!(hopeB p (tim p) xs))))) (fun _ F=>X.assign rfl (X.kc (Vi 0) rfl)) ?_;clear F ac;intro ac F
  refine Y.nt F [(4, .bool (!(hopeB p (tim p) xs))), (5, Vi 0)] ?_;clear F ac;intro ac F
  refine Y.ret ?_
  exact Y.ret0 (v := .tuple #[.bool (!(hopeB p (tim p) xs)), Vi 0]) F (Y.rs2 F rfl (by kernel_rfl) (by kernel_rfl)) ⟨by rw [allow_1 (by omega), (show whoE p xs = 0 by omega)], G⟩
 | true =>
  try rw [h8] at F
  have h8p : ¬ (whoE p xs : Int) = 0 := by simpa using h8
  refine Y.condT (F.ev 11 (.bool true)) ?_
  refine Y.sg F [(4, .bool false), (5, Vi (whoE p xs))] (Y.pv F (X.move rfl (F.ev 6 (Vi (whoE p xs)))) fun ac F=>Y.pv F (X.assign rfl (X.kc (.bool false) rfl)) fun ac F=>Y.pv F (X.assign rfl (F.ev 12 (Vi (whoE p xs)))) fun ac F=>Y.fin F) ?_;clear F ac;intro ac F
  refine Y.ret ?_
  refine X.thenR ?_
  exact Y.ret0 (v := .tuple #[.bool false, Vi (whoE p xs)]) F (Y.rs2 F rfl (by kernel_rfl) (by kernel_rfl)) ⟨by rw [allow_0 (by omega)], G⟩
end
section
open Go.RowKit

set_option maxRecDepth 100000 in
set_option maxHeartbeats 400000 in
theorem withL_any (a : Option Addr) (c : Nat) (xs : List Int) (x : Int) (w : World) (hX : Ints w a xs.length xs) (hl : xs.length ≤ 1000) :
  Calls Try.prog 101 #[.slice a xs.length c, Vi x] w fun e w' => ∃ g c', e = .returned (.slice (some ⟨g, 0, none⟩) (xs ++ [x]).length c') ∧ BegAt w' w.heap.size (some ⟨g, 0, none⟩) c' (xs ++ [x]) ∧ Gr w w' := by
 have G := Gr.refl w
 have hxs := hX
 have hgz := Nat.le_refl w.heap.size
 refine Y.calls 11 Try.func101 rfl rfl ?_
 intro ac F0
 have F : Fr ac 11 [(0, .slice a xs.length c), (1, Vi x)] := F0.sub _
 clear F0
 refine Y.sg F [(0, .slice a xs.length c), (1, Vi x)] (Y.pv F (X.assign rfl (X.kc (.slice none 0 0) rfl)) fun ac F=>Y.fin F) ?_;clear F ac;intro ac F
 refine Y.sl ?_
 refine Y.pv F (X.bs rfl X.bs0 (Try.bs34_0 _)) ?_;clear F ac;intro ac F
 have g := Gr.alloc w (.cells #[] 3)
 have hO := ownR_new (k := 1) (heap_alloc_new w (.cells #[] 3)) (Nat.le_refl _)
 generalize w.alloc (.cells #[] 3) = w3 at *
 replace G := G.trans g
 replace hxs := hxs.gr g
 clear g
 refine Y.pv F (X.move rfl (F.ev 0 (.slice a xs.length c))) ?_;clear F ac;intro ac F
 obtain ⟨ra, rc, w4, hrun, hO2, g⟩ := run_copyN (P := Try.prog) (ts := 34) Try.underlying34 Try.info3 rfl (by decide) hO (ints_tb hxs).2 (by rw [List.length_map, Nat.mul_one]) (ints_tb hxs).1 (ints_all xs) (by omega) (by decide) G.size
 refine Y.pv F (Y.apz rfl (F.ev 5 (.slice (some ⟨w.heap.size, 0, none⟩) 0 0)) (F.ev 6 (.slice a xs.length c)) hrun) ?_
 clear F ac hrun
 intro ac F
 replace G := G.trans g
 replace hxs := hxs.gr g
 refine Y.pv2 F (X.move rfl (F.ev 1 (Vi x))) (fun _ F=>X.bs rfl (X.b1 (F.ev 8 (Vi x))) (Try.bs34_1 _ _)) ?_;clear F ac;intro ac F
 have g := Gr.alloc w4 (.cells #[Vi x] 3)
 have hg9 := heap_alloc_new w4 (.cells #[Vi x] 3)
 replace hO2 := hO2.gr g
 generalize w4.alloc (.cells #[Vi x] 3) = w5 at *
 replace G := G.trans g
 replace hxs := hxs.gr g
 clear g
 refine Y.wpL_plain rfl fun _ hK => wp_pushV Try.underlying34 Try.info3 rfl (by decide) rfl (F.ev 7 (.slice ra xs.length rc)) (F.ev 9 (.slice (some ⟨w4.heap.size, 0, none⟩) 1 1)) hO2 (m := 1) (news := [Vi x]) rfl (cells_at (vs := [Vi x]) hg9) rfl (by omega) (by decide) (Nat.le_trans hgz G.size) (fun v2 w6 hO3 hon hat => hK _ _ ?_)
 refine Y.pput F rfl ?_
 clear F ac hat
 intro ac F
 obtain ⟨g5, c5, rfl, hb5⟩ := OwnR.beg (xs := xs ++ [x]) (by rw [List.map_append, List.length_append]; exact hO3) (by simp; omega) (by simp)
 replace G := OnlyG G hon (fun b e => Nat.le_trans hgz (hO2.ge e).1)
 refine Y.pv F (X.assign rfl (F.ev 10 (.slice (some ⟨g5, 0, none⟩) ((xs ++ [x]).length) c5))) ?_;clear F ac;intro ac F
 refine Y.nt F [(4, .slice (some ⟨g5, 0, none⟩) ((xs ++ [x]).length) c5)] ?_;clear F ac;intro ac F
 refine Y.ret ?_
 exact Y.ret0 (v := .slice (some ⟨g5, 0, none⟩) ((xs ++ [x]).length) c5) F (Y.r1 F) ⟨g5, c5, rfl, hb5.lower hgz, G⟩
/-- what the reference's search returns from a beginning on, with m tasks to come -/
def AllC (p : Pb) (ta ha ba la : Option Addr) (tc hc bc lc m : Nat) : Prop :=
 ∀ (xs : List Int) (a : Option Addr) (c : Nat) (w : World), PbAt w p ta ha ba la tc hc bc lc → xs.length + m = p.nt → HosOk p xs → Ints w a xs.length xs → (∀ ad, a = some ad → ad.block < w.heap.size) →
  Calls Try.prog 68 #[.agg #[.slice ta p.nt tc, .slice ha p.nh hc, .slice ba p.nb bc, .slice la p.nl lc], .slice a xs.length c] w fun e w' =>
   ∃ v E, e = .returned v ∧ RwAt w' w.heap.size v E ∧ E.map BegE.xs = allF p.nh (hopeB p (tim p)) m xs ∧ (∀ x ∈ E, x.a = a ∨ ∀ ad, x.a = some ad → w.heap.size ≤ ad.block) ∧ Gr w w'
set_option maxRecDepth 100000 in
set_option maxHeartbeats 2000000 in
theorem all_step (p : Pb) (ta ha ba la : Option Addr) (tc hc bc lc : Nat) (m : Nat) (hp : PbOk p) (hsm : p.nt ≤ 5 ∧ p.nh ≤ 4) (ih : ∀ k, m = k + 1 → AllC p ta ha ba la tc hc bc lc k)
  (xs : List Int) (a : Option Addr) (c : Nat) (w : World) (hP : PbAt w p ta ha ba la tc hc bc lc) (hm : xs.length + m = p.nt) (hx : HosOk p xs) (hX : Ints w a xs.length xs) (hXb : ∀ ad, a = some ad → ad.block < w.heap.size) :
  Calls Try.prog 68 #[.agg #[.slice ta p.nt tc, .slice ha p.nh hc, .slice ba p.nb bc, .slice la p.nl lc], .slice a xs.length c] w fun e w' => ∃ v E, e = .returned v ∧ RwAt w' w.heap.size v E ∧ E.map BegE.xs = allF p.nh (hopeB p (tim p)) m xs ∧ (∀ x ∈ E, x.a = a ∨ ∀ ad, x.a = some ad → w.heap.size ≤ ad.block) ∧ Gr w w' := by
 have G := Gr.refl w
 have hpt := hP.t
 have hph := hP.h
 have hpb := hP.b
 have hpl := hP.l
 have hplen := hP.len
 obtain ⟨hn1, hn2, hn3, hn4⟩ := hplen
 have hcp1 := hpt.cap
 have hcp2 := hph.cap
 have hcp3 := hpb.cap
 have hcp4 := hpl.cap
 have hxs := hX
 have hlen : xs.length ≤ p.nt := by omega
 have hs1 := hsm.1
 have hs2 := hsm.2
 refine Y.calls 33 Try.func68 rfl rfl ?_
 intro ac F0
 have F : Fr ac 33 [(0, .agg #[.slice ta p.nt tc, .slice ha p.nh hc, .slice ba p.nb bc, .slice la p.nl lc]), (1, .slice a xs.length c)] := F0.sub _
 clear F0
 refine Y.sl ?_
 have hgs3 : w.heap.size ≤ w.heap.size := G.size
 refine Y.pv F (X.box rfl (F.ev 0 (.agg #[.slice ta p.nt tc, .slice ha p.nh hc, .slice ba p.nb bc, .slice la p.nl lc])) X.bx) ?_;clear F ac;intro ac F
 have hgs5 : w.heap.size ≤ w.heap.size := G.size
 obtain ⟨w6, hw_, g, hb, hbl, hC2⟩ := Y.bxd (RCells.nil w) #[.slice ta p.nt tc, .slice ha p.nh hc, .slice ba p.nb bc, .slice la p.nl lc] 27;rw [hw_];clear hw_
 replace G := G.trans g
 have hC := hC2
 clear hC2
 replace hpt := hpt.gr g
 replace hph := hph.gr g
 replace hpb := hpb.gr g
 replace hpl := hpl.gr g
 replace hxs := hxs.gr g
 have hsz4 := hbl
 clear g hb hbl
 refine Y.pv F (X.assign rfl (X.kc (.slice none 0 0) rfl)) ?_;clear F ac;intro ac F
 refine Y.nt F [(1, .slice a xs.length c), (2, Vp w.heap.size)] ?_;clear F ac;intro ac F
 refine Y.seq ?_
 refine Y.sl ?_
 refine Y.pv2 F (X.load rfl (F.ev 2 (Vp w.heap.size)) (X.ldN (Try.agg27 _) (Try.siz27 _) (Y.atz (⟨w.heap.size, 0, none⟩) (Y.AtFrom.cons (hC.at 0 rfl) (Y.AtFrom.cons (hC.at 1 rfl) (Y.AtFrom.cons (hC.at 2 rfl) (Y.AtFrom.cons (hC.at 3 rfl) (Y.AtFrom.nil _ _ _)))))))) (fun _ F=>X.move rfl (F.ev 1 (.slice a xs.length c))) ?_;clear F ac;intro ac F
 refine Y.pc F 75 (X.a3 (F.ev 7 (.agg #[.slice ta p.nt tc, .slice ha p.nh hc, .slice ba p.nb bc, .slice la p.nl lc])) (F.ev 8 (.slice a xs.length c)) (X.kc (Vi 100) rfl)) Try.func75 (by have hq := hop2_any p ta ha ba la tc hc bc lc a c xs 100 w6 (hP.gr G) (hX.gr G) hp hx hlen (by decide); rw [hund_100] at hq; exact hq) ?_
 clear F ac
 rintro e w7 ⟨rfl, g⟩
 refine ⟨_, rfl, ?_⟩
 intro ac F
 replace G := G.trans g
 replace hC := hC.gr g
 replace hpt := hpt.gr g
 replace hph := hph.gr g
 replace hpb := hpb.gr g
 replace hpl := hpl.gr g
 replace hxs := hxs.gr g
 clear g
 refine Y.nt F [(1, .slice a xs.length c), (2, Vp w.heap.size), (9, .bool (hopeB p (tim p) xs))] ?_;clear F ac;intro ac F
 cases h8 : hopeB p (tim p) xs with
 | false =>
  try rw [h8] at F
  refine Y.condF (F.ev 9 (.bool false)) ?_
  refine Y.skip ?_
  refine X.thenN ?_
  refine Y.seq ?_
  refine Y.sg F [(1, .slice a xs.length c), (2, Vp w.heap.size), (15, .bool ((xs.length : Int) == p.nt))] (by
   refine Y.pv F (X.move rfl (F.ev 1 (.slice a xs.length c))) fun ac F=>?_
   refine Y.pv F (X.len1 Try.underlying34 rfl (F.ev 10 (.slice a xs.length c))) fun ac F=>?_
   refine Y.pv F (X.field rfl (F.ev 2 (Vp w.heap.size)) (X.fld Try.underlying27 rfl (Try.siz22 _) rfl rfl)) fun ac F=>?_
   refine Y.pv F (X.load rfl (F.ev 12 (Vp w.heap.size)) (X.ld1 (Try.agg22 _) (hC.at 0 rfl))) fun ac F=>?_
   refine Y.pv F (X.len1 Try.underlying22 rfl (F.ev 13 (.slice ta p.nt tc))) fun ac F=>?_
   refine Y.pv F (X.binop rfl (F.ev 11 (Vi xs.length)) (F.ev 14 (Vi p.nt)) (X.eqlI Try.underlying3 rfl)) fun ac F=>?_
   exact Y.fin F) ?_;clear F ac;intro ac F
  cases h9 : ((xs.length : Int) == p.nt) with
  | false =>
   try rw [h9] at F
   have h9p : ¬ (xs.length : Int) = p.nt := by simpa using h9
   obtain ⟨k, rfl⟩ : ∃ k, m = k + 1 := ⟨m - 1, by omega⟩
   refine Y.condF (F.ev 15 (.bool false)) ?_
   refine Y.skip ?_
   refine X.thenN ?_
   refine Y.sg F [(1, .slice a xs.length c), (2, Vp w.heap.size), (5, .slice none 0 0)] (Y.pv F (X.assign rfl (X.kc (.slice none 0 0) rfl)) fun ac F=>Y.fin F) ?_;clear F ac;intro ac F
   refine Y.seq ?_
   refine Y.sg F [(1, .slice a xs.length c), (2, Vp w.heap.size), (5, .slice none 0 0), (6, Vi 0)] (Y.pv F (X.assign rfl (X.kc (Vi 0) rfl)) fun ac F=>Y.fin F) ?_;clear F ac;intro ac F
   refine Y.block ?_
   have hwl0 : w.heap.size ≤ w7.heap.size := G.size
   have hbp7 : w.heap.size < w7.heap.size := lt_cell (hC.at 0 rfl)
   refine Y.loop (fun me_ ac wr => ∃ (h : Nat) (E : List BegE) (oa : Option Addr) (oc : Nat), me_ = p.nh - h ∧ Only (fun b => False) w7 wr ∧ h ≤ p.nh ∧ RwAt wr w7.heap.size (.slice oa E.length oc) E ∧ E.map BegE.xs = flatN (fun h : Nat => allF p.nh (hopeB p (tim p)) k (xs ++ [(h : Int)])) h ∧ (∀ x ∈ E, ∀ ad, x.a = some ad → w.heap.size ≤ ad.block) ∧ Fr ac 33 [(1, .slice a xs.length c), (2, Vp w.heap.size), (5, .slice oa E.length oc), (6, Vi h)]) _ ⟨0, [], none, 0, rfl, Only.refl _ _, Nat.zero_le _, RwAt.nil _ _, rfl, fun x hx => (by simp at hx), F.sub _⟩ ?_
   have hptB1 := hpt
   have hphB1 := hph
   have hpbB1 := hpb
   have hplB1 := hpl
   have hxsB1 := hxs
   have GB1 := G
   have hCB1 := hC
   clear F ac
   intro me_ ac w10 hI
   obtain ⟨h, E, oa, oc, rfl, hO1, hh, hRw, hmap, hbk, F⟩ := hI
   replace G := GB1.trans (hO1.gr (fun _ _ h => h))
   replace hpt := (hP.t).gr G
   replace hph := (hP.h).gr G
   replace hpb := (hP.b).gr G
   replace hpl := (hP.l).gr G
   replace hxs := (hX).gr G
   replace hC := (RCells.cons (hO1.cell (hCB1.at 0 rfl) (fun h => h)) (RCells.cons (hO1.cell (hCB1.at 1 rfl) (fun h => h)) (RCells.cons (hO1.cell (hCB1.at 2 rfl) (fun h => h)) (RCells.cons (hO1.cell (hCB1.at 3 rfl) (fun h => h)) (RCells.nil _)))))
   refine Y.seq ?_
   refine Y.sg F [(1, .slice a xs.length c), (2, Vp w.heap.size), (5, .slice oa E.length oc), (6, Vi h), (22, .bool (decide ((h : Int) < p.nh)))] (by
    refine Y.pv F (X.move rfl (F.ev 6 (Vi h))) fun ac F=>?_
    refine Y.pv F (X.field rfl (F.ev 2 (Vp w.heap.size)) (X.fld Try.underlying27 rfl (Try.siz23 _) rfl rfl)) fun ac F=>?_
    refine Y.pv F (X.load rfl (F.ev 19 (.pointer (some ⟨w.heap.size, 1, none⟩))) (X.ld1 (Try.agg23 _) (hC.at 1 rfl))) fun ac F=>?_
    refine Y.pv F (X.len1 Try.underlying23 rfl (F.ev 20 (.slice ha p.nh hc))) fun ac F=>?_
    refine Y.pv F (X.binop rfl (F.ev 18 (Vi h)) (F.ev 21 (Vi p.nh)) (X.lssI Try.underlying3 rfl)) fun ac F=>?_
    exact Y.fin F) ?_;clear F ac;intro ac F
   cases h11 : decide ((h : Int) < p.nh) with
   | false =>
    try rw [h11] at F
    have h11p : ¬ ((h : Int) < p.nh) := of_decide_eq_false h11
    obtain rfl : h = p.nh := by omega
    refine Y.condF (F.ev 22 (.bool false)) ?_
    refine Y.exit ?_
    refine X.thenX (X.thenX (X.blockX (X.thenN ?_)))
    refine Y.sg F [(4, .slice oa E.length oc)] (Y.pv F (X.move rfl (F.ev 5 (.slice oa E.length oc))) fun ac F=>Y.pv F (X.assign rfl (F.ev 32 (.slice oa E.length oc))) fun ac F=>Y.fin F) ?_;clear F ac;intro ac F
    refine Y.ret ?_
    exact Y.ret0 (v := .slice oa E.length oc) F (Y.r1 F) ⟨_, E, rfl, hRw.lower hwl0, by rw [all_in h8]; exact hmap, fun x hx => .inr (hbk x hx), G⟩
   | true =>
    try rw [h11] at F
    have h11p : ((h : Int) < p.nh) := of_decide_eq_true h11
    have hi2 : h < p.nh := by omega
    refine Y.condT (F.ev 22 (.bool true)) ?_
    refine Y.skip ?_
    refine X.thenN ?_
    refine Y.seq ?_
    refine Y.block ?_
    have hOs := hO1.size
    have hwq : w.heap.size ≤ w10.heap.size := G.size
    have hE1 : E.length ≤ 4096 := by
     have h1 := congrArg List.length hmap
     rw [List.length_map] at h1
     have h2 := flatN_len (f := (fun h : Nat => allF p.nh (hopeB p (tim p)) k (xs ++ [(h : Int)]))) (k := 4 ^ k) (n := h) (fun h _ => allF_len hsm.2 k _)
     have h3 := pow_le (m := k) (by omega)
     have h4 := Nat.mul_le_mul (show h ≤ 4 by omega) h3
     omega
    obtain ⟨Ta, hTa⟩ : ∃ T : Value → World → Prop, T = fun v W => ∃ g4 c4, v = .slice (some ⟨g4, 0, none⟩) (xs ++ [(h : Int)]).length c4 ∧ BegAt W w10.heap.size (some ⟨g4, 0, none⟩) c4 (xs ++ [(h : Int)]) := ⟨_, rfl⟩
    obtain ⟨Tb, hTb⟩ : ∃ T : Value → World → Prop, T = fun v W => ∃ E2 : List BegE, RwAt W w10.heap.size v E2 ∧ E2.map BegE.xs = allF p.nh (hopeB p (tim p)) k (xs ++ [(h : Int)]) ∧ ∀ x ∈ E2, ∀ ad, x.a = some ad → w10.heap.size ≤ ad.block := ⟨_, rfl⟩
    obtain ⟨Tc, hTc⟩ : ∃ T : Value → World → Prop, T = fun v W => ∃ E2 : List BegE, E2.map BegE.xs = allF p.nh (hopeB p (tim p)) k (xs ++ [(h : Int)]) ∧ (∀ x ∈ E2, ∀ ad, x.a = some ad → w10.heap.size ≤ ad.block) ∧ RwAt W w7.heap.size v (E ++ E2) ∧ Only (fun b => (Value.slice oa E.length oc).ownBlock = some b) w10 W := ⟨_, rfl⟩
    have uTa : UpV Ta := by subst hTa; exact fun v W W2 ⟨g4, c4, e, h⟩ g => ⟨g4, c4, e, h.gr g⟩
    have uTb : UpV Tb := by subst hTb; exact fun v W W2 ⟨E2, h1, h2, h3⟩ g => ⟨E2, h1.gr g, h2, h3⟩
    refine region_xi F [some (.slice oa E.length oc), some (.agg #[.slice ta p.nt tc, .slice ha p.nh hc, .slice ba p.nb bc, .slice la p.nl lc]), some (.slice a xs.length c), some (Vi h), none, none, none, none] (RA4 w10 4 5 6 7 Ta Tb Tc) rfl ⟨by kernel_rfl, of_decide_eq_true (by kernel_rfl), by kernel_rfl, by kernel_rfl, by kernel_rfl⟩ (fun _ => ⟨RA4.start (Gr.refl _), RA4.start (Gr.drew _)⟩) ⟨?_, ?_, ?_, ?_, ?_, ?_, ?_, ?_, trivial⟩ ?_
    ·intro ac done u W Sx hR
     have g : Gr w10 W := hR.g (Sx.no 6 (by kernel_rfl))
     exact X.vl (X.move rfl (Sx.ev 5 (.slice oa E.length oc))) (hR.quiet uTa uTb (Sx.no 6 (by kernel_rfl)) (Sx.no 7 (by kernel_rfl)) (Gr.refl _) (by decide))
    ·intro ac done u W Sx hR
     have g : Gr w10 W := hR.g (Sx.no 6 (by kernel_rfl))
     exact X.vl (X.load rfl (Sx.ev 2 (Vp w.heap.size)) (X.ldN (Try.agg27 _) (Try.siz27 _) (Y.atz (⟨w.heap.size, 0, none⟩) (Y.AtFrom.cons ((hC.gr g).at 0 rfl) (Y.AtFrom.cons ((hC.gr g).at 1 rfl) (Y.AtFrom.cons ((hC.gr g).at 2 rfl) (Y.AtFrom.cons ((hC.gr g).at 3 rfl) (Y.AtFrom.nil _ _ _)))))))) (hR.quiet uTa uTb (Sx.no 6 (by kernel_rfl)) (Sx.no 7 (by kernel_rfl)) (Gr.refl _) (by decide))
    ·intro ac done u W Sx hR
     have g : Gr w10 W := hR.g (Sx.no 6 (by kernel_rfl))
     exact X.vl (X.move rfl (Sx.ev 1 (.slice a xs.length c))) (hR.quiet uTa uTb (Sx.no 6 (by kernel_rfl)) (Sx.no 7 (by kernel_rfl)) (Gr.refl _) (by decide))
    ·intro ac done u W Sx hR
     have g : Gr w10 W := hR.g (Sx.no 6 (by kernel_rfl))
     exact X.vl (X.move rfl (Sx.ev 6 (Vi h))) (hR.quiet uTa uTb (Sx.no 6 (by kernel_rfl)) (Sx.no 7 (by kernel_rfl)) (Gr.refl _) (by decide))
    ·intro ac done u W Sx hR
     have g : Gr w10 W := hR.g (Sx.no 6 (by kernel_rfl))
     refine X.call (X.w0 rfl) (X.enter (F := 101) rfl (X.kc (.func (.func 101) #[] #[]) rfl) (X.a2 (Sx.ev 27 (.slice a xs.length c)) (Sx.ev 28 (Vi h))) (enters_of Try.func101 (by kernel_rfl) rfl _)) (withL_any a c xs (h : Int) W (hX.gr (G.trans g)) (by omega)) ?_
     rintro e W2 ⟨g4, c4, rfl, hb4, g2⟩
     exact ⟨_, rfl, X.un rfl, hR.sa (by decide) uTb (Sx.no 6 (by kernel_rfl)) (Sx.no 7 (by kernel_rfl)) g2 (by subst hTa; exact ⟨g4, c4, rfl, hb4.lower g.size⟩)⟩
    ·intro ac done u W Sx hR
     have g : Gr w10 W := hR.g (Sx.no 6 (by kernel_rfl))
     have hA := hR.ga (Sx.an 4 (by kernel_rfl)) (Sx.no 6 (by kernel_rfl))
     rw [hTa] at hA
     obtain ⟨g4, c4, e4, hb4⟩ := hA
     have hq := ih k rfl (xs ++ [(h : Int)]) (some ⟨g4, 0, none⟩) c4 W (hP.gr (G.trans g)) (by simp; omega) (hx.app hi2) hb4.i (fun ad e => (hb4.ge ad e).2)
     refine X.call (X.w0 rfl) (X.enter (F := 68) rfl (X.kc (.func (.func 68) #[] #[]) rfl) (X.a2 (Sx.ev 26 (.agg #[.slice ta p.nt tc, .slice ha p.nh hc, .slice ba p.nb bc, .slice la p.nl lc])) ((Sx.own 4 29 rfl).trans e4)) (enters_of Try.func68 (by kernel_rfl) rfl _)) hq ?_
     rintro e W2 ⟨v2, E2, rfl, hRw2, hm2, hb2, g2⟩
     exact ⟨_, rfl, X.un rfl, hR.sb (by decide) uTa (Sx.no 6 (by kernel_rfl)) (Sx.no 7 (by kernel_rfl)) g2 (by subst hTb; exact ⟨E2, hRw2.lower g.size, hm2, fun x hx ad e => (hb2 x hx).elim (fun h9 => by rw [h9] at e; injection e with e; subst e; exact (hb4.ge _ rfl).1) (fun h9 => Nat.le_trans g.size (h9 ad e))⟩)⟩
    ·intro ac done u W Sx hR
     have g : Gr w10 W := hR.g Sx.nd
     have hBb := hR.gb (Sx.an 5 (by kernel_rfl)) Sx.nd
     rw [hTb] at hBb
     obtain ⟨E2, hRw2, hm2, hb2⟩ := hBb
     obtain ⟨sa, sc, e5⟩ := hRw2.form
     rw [e5] at hRw2
     have hE2 : E2.length ≤ 1024 := by
      have h1 := congrArg List.length hm2
      rw [List.length_map] at h1
      have h2 := allF_len (hope := (hopeB p (tim p))) hsm.2 k (xs ++ [(h : Int)])
      have h3 := pow_le (m := k) (by omega)
      omega
     refine X.law (X.w0 rfl) (fun K_ hK => wp_pushG Try.underlying38 Try.info34 rfl (by decide) rfl (Sx.ev 25 (.slice oa E.length oc)) ((Sx.own 5 30 rfl).trans e5) (hRw.o.gr g) hRw2.none0 (by rw [rowsV_len, Nat.mul_one]) hRw2.src (rowsV_all E2) (by omega) (by decide) (Nat.le_trans (by omega) g.size) (fun v2 W2 hO2 hon hat => hK v2 W2 (fun x hx => by cases hx) (RA4.sc (by decide) (Sx.no 7 (by kernel_rfl)) ?_)))
     subst hTc
     exact ⟨E2, hm2, hb2, (hRw.gr g).push hRw2 hO2 hon hat (fun x hx ad e h9 => by have h8 := (hRw.o.ge h9).2; have h7 := hb2 x hx ad e; omega), (g.only _).trans hon⟩
    ·intro ac done u W Sx hR
     exact X.valN (X.w0 rfl) rfl (X.assign rfl (Sx.own 6 31 rfl)) (hR.sd (by decide) (Sx.an 6 (by kernel_rfl)))
    rintro ac u w12 hs hd hl_ ho hR
    have hcc := hR.gc rfl
    have e7 := hR.gd rfl
    rw [hTc] at hcc
    obtain ⟨E2, hm2, hb2, hRw2, hon⟩ := hcc
    obtain ⟨oa2, oc2, e6⟩ := hRw2.form
    rw [e6] at hRw2 e7
    clear hTa hTb hTc uTa uTb e6
    replace F : Fr ac 33 [(1, .slice a xs.length c), (2, Vp w.heap.size), (6, Vi h)] := X.fr hs hd hl_ _ (by kernel_rfl)
    replace F := F.add (ho 7 5 rfl) e7
    clear hs hd hl_ ho hR e7
    replace F : Fr ac 33 [(1, .slice a xs.length c), (2, Vp w.heap.size), (5, .slice oa2 ((E ++ E2).length) oc2), (6, Vi h)] := F.sub _
    have hlo : ∀ b, (Value.slice oa E.length oc).ownBlock = some b → w7.heap.size ≤ b := fun b e => (hRw.o.ge e).1
    replace hO1 := hO1.step2 hon (fun r e => .inr (hlo r e))
    replace G := ((G.only (fun b => w7.heap.size ≤ b)).trans (hon.mono' (fun i e => hlo i e))).gr (fun i hi e => by omega)
    replace hpt := (hP.t).gr G
    replace hph := (hP.h).gr G
    replace hpb := (hP.b).gr G
    replace hpl := (hP.l).gr G
    replace hxs := (hX).gr G
    replace hC := (RCells.cons (hon.cell (hC.at 0 rfl) (fun e => by have h9 := hlo _ e; simp only at h9; omega)) (RCells.cons (hon.cell (hC.at 1 rfl) (fun e => by have h9 := hlo _ e; simp only at h9; omega)) (RCells.cons (hon.cell (hC.at 2 rfl) (fun e => by have h9 := hlo _ e; simp only at h9; omega)) (RCells.cons (hon.cell (hC.at 3 rfl) (fun e => by have h9 := hlo _ e; simp only at h9; omega)) (RCells.nil _)))))
    clear hon hlo
    refine X.blockN (X.thenN ?_)
    refine Y.lg F [(1, .slice a xs.length c), (2, Vp w.heap.size), (5, .slice oa2 ((E ++ E2).length) oc2), (6, Vi ((h : Int) + 1))] (by
     refine Y.pv F (X.move rfl (F.ev 6 (Vi h))) fun ac F=>?_
     refine Y.pv F (X.binop rfl (F.ev 23 (Vi h)) (X.kc (Vi 1) rfl) (X.addI Try.underlying3 rfl (by omega) (by omega))) fun ac F=>?_
     refine Y.pv F (X.assign rfl (F.ev 24 (Vi ((h : Int) + 1)))) fun ac F=>?_
     exact Y.fin F) ?_;clear F ac;intro ac F
    refine ⟨_, ?_, h + 1, E ++ E2, oa2, oc2, rfl, hO1, by omega, hRw2, by rw [List.map_append, hmap, hm2]; rfl, fun x hx ad e => (List.mem_append.1 hx).elim (fun hx => hbk x hx ad e) (fun hx => Nat.le_trans hwq (hb2 x hx ad e)), F.sub _⟩
    omega
  | true =>
   try rw [h9] at F
   have h9p : (xs.length : Int) = p.nt := by simpa using h9
   obtain rfl : m = 0 := by omega
   refine Y.condT (F.ev 15 (.bool true)) ?_
   refine Y.sl ?_
   refine Y.pv2 F (X.move rfl (F.ev 1 (.slice a xs.length c))) (fun _ F=>X.bs rfl (X.b1 (F.ev 16 (.slice a xs.length c))) (Try.bs38_1 _ _ _ _)) ?_;clear F ac;intro ac F
   have g := Gr.alloc w7 (.cells #[.slice a xs.length c] 34)
   have hR1 := rw_one (heap_alloc_new w7 (.cells #[.slice a xs.length c] 34)) G.size ((hX.gr G).gr g) (fun ad e => Nat.lt_of_lt_of_le (hXb ad e) G.size)
   generalize w7.alloc (.cells #[.slice a xs.length c] 34) = w13 at *
   replace G := G.trans g
   replace hC := hC.gr g
   replace hpt := hpt.gr g
   replace hph := hph.gr g
   replace hpb := hpb.gr g
   replace hpl := hpl.gr g
   replace hxs := hxs.gr g
   clear g
   refine Y.pv F (X.assign rfl (F.ev 17 (.slice (some ⟨w7.heap.size, 0, none⟩) 1 1))) ?_;clear F ac;intro ac F
   refine Y.nt F [(4, .slice (some ⟨w7.heap.size, 0, none⟩) 1 1)] ?_;clear F ac;intro ac F
   refine Y.ret ?_
   refine X.thenR ?_
   exact Y.ret0 (v := .slice (some ⟨w7.heap.size, 0, none⟩) 1 1) F (Y.r1 F) ⟨_, [⟨xs, a, c⟩], rfl, hR1, by rw [all_leaf h8]; rfl, fun x hx => (by simp at hx; subst hx; exact .inl rfl), G⟩
 | true =>
  try rw [h8] at F
  refine Y.condT (F.ev 9 (.bool true)) ?_
  refine Y.sg F [(4, .slice none 0 0)] (Y.pv F (X.assign rfl (X.kc (.slice none 0 0) rfl)) fun ac F=>Y.fin F) ?_;clear F ac;intro ac F
  refine Y.ret ?_
  refine X.thenR ?_
  exact Y.ret0 (v := .slice none 0 0) F (Y.r1 F) ⟨_, [], rfl, RwAt.nil _ _, by rw [all_hope h8]; rfl, fun x hx => (by simp at hx), G⟩
theorem all_any (p : Pb) (ta ha ba la : Option Addr) (tc hc bc lc : Nat) (hp : PbOk p) (hsm : p.nt ≤ 5 ∧ p.nh ≤ 4) : ∀ m, AllC p ta ha ba la tc hc bc lc m := by
 intro m
 induction m with
 | zero => exact fun xs a c w h1 h2 h3 h4 h5 => all_step p ta ha ba la tc hc bc lc 0 hp hsm (fun k e => by cases e) xs a c w h1 h2 h3 h4 h5
 | succ m ih => exact fun xs a c w h1 h2 h3 h4 h5 => all_step p ta ha ba la tc hc bc lc (m + 1) hp hsm (fun k e => by cases e; exact ih) xs a c w h1 h2 h3 h4 h5
end
section
open Go.RowKit
end
section
open Go.RowKit

theorem all_take {xs : List Value} (h : (xs.all fun v => v.oneCell') = true) (k : Nat) : ((xs.take k).all fun v => v.oneCell') = true := List.all_eq_true.2 fun v hv => List.all_eq_true.1 h v (List.mem_of_mem_take hv)
theorem all_drop {xs : List Value} (h : (xs.all fun v => v.oneCell') = true) (k : Nat) : ((xs.drop k).all fun v => v.oneCell') = true := List.all_eq_true.2 fun v hv => List.all_eq_true.1 h v (List.mem_of_mem_drop hv)
set_option maxRecDepth 100000 in
set_option maxHeartbeats 4000000 in
theorem sorted_any (p : Pb) (ta ha ba la : Option Addr) (tc hc bc lc : Nat) (lr : Option Addr) (lc9 : Nat) (E : List BegE) (hp : PbOk p) (w : World) (hP : PbAt w p ta ha ba la tc hc bc lc) (hL : RrAt w lr E) (hE : ∀ x ∈ E, HosOk p x.xs ∧ x.xs.length = p.nt) (hEl : E.length ≤ 1024) :
  Calls Try.prog 67 #[.agg #[.slice ta p.nt tc, .slice ha p.nh hc, .slice ba p.nb bc, .slice la p.nl lc], .slice lr E.length lc9] w fun e w' => ∃ oa oc S, e = .returned (.slice oa S.length oc) ∧ OwnR w' w.heap.size 34 1 (.slice oa S.length oc) S.length (begsV S) ∧ strip S = srtK (keyC p) (E.map BegE.xs) ∧ (∀ y ∈ S, y.2 ∈ E ∧ y.1 = keyC p y.2.xs) ∧ Gr w w' := by
 have G := Gr.refl w
 have hpt := hP.t
 have hph := hP.h
 have hpb := hP.b
 have hpl := hP.l
 have hplen := hP.len
 obtain ⟨hn1, hn2, hn3, hn4⟩ := hplen
 have hcp1 := hpt.cap
 have hcp2 := hph.cap
 have hcp3 := hpb.cap
 have hcp4 := hpl.cap
 have hLr := hL
 refine Y.calls 65 Try.func67 rfl rfl ?_
 intro ac F0
 have F : Fr ac 65 [(0, .agg #[.slice ta p.nt tc, .slice ha p.nh hc, .slice ba p.nb bc, .slice la p.nl lc]), (1, .slice lr E.length lc9)] := F0.sub _
 clear F0
 refine Y.sl ?_
 have hgs3 : w.heap.size ≤ w.heap.size := G.size
 refine Y.pv F (X.box rfl (F.ev 0 (.agg #[.slice ta p.nt tc, .slice ha p.nh hc, .slice ba p.nb bc, .slice la p.nl lc])) X.bx) ?_;clear F ac;intro ac F
 have hgs5 : w.heap.size ≤ w.heap.size := G.size
 obtain ⟨w6, hw_, g, hb, hbl, hC2⟩ := Y.bxd (RCells.nil w) #[.slice ta p.nt tc, .slice ha p.nh hc, .slice ba p.nb bc, .slice la p.nl lc] 27;rw [hw_];clear hw_
 replace G := G.trans g
 have hC := hC2
 clear hC2
 replace hpt := hpt.gr g
 replace hph := hph.gr g
 replace hpb := hpb.gr g
 replace hpl := hpl.gr g
 replace hLr := hLr.gr g
 have hsz4 := hbl
 clear g hb hbl
 refine Y.pv F (X.assign rfl (X.kc (.slice none 0 0) rfl)) ?_;clear F ac;intro ac F
 refine Y.nt F [(1, .slice lr E.length lc9), (2, Vp w.heap.size)] ?_;clear F ac;intro ac F
 refine Y.sg F [(1, .slice lr E.length lc9), (2, Vp w.heap.size), (5, .slice none 0 0)] (Y.pv F (X.assign rfl (X.kc (.slice none 0 0) rfl)) fun ac F=>Y.fin F) ?_;clear F ac;intro ac F
 refine Y.sg F [(1, .slice lr E.length lc9), (2, Vp w.heap.size), (5, .slice none 0 0), (6, .slice none 0 0)] (Y.pv F (X.assign rfl (X.kc (.slice none 0 0) rfl)) fun ac F=>Y.fin F) ?_;clear F ac;intro ac F
 refine Y.seq ?_
 refine Y.sg F [(1, .slice lr E.length lc9), (2, Vp w.heap.size), (5, .slice none 0 0), (6, .slice none 0 0), (7, Vi 0)] (Y.pv F (X.assign rfl (X.kc (Vi 0) rfl)) fun ac F=>Y.fin F) ?_;clear F ac;intro ac F
 refine Y.block ?_
 have hwl0 : w.heap.size ≤ w6.heap.size := G.size
 refine Y.loop (fun me_ ac wr => ∃ (S : RkL) (ca : Option Addr) (cc : Nat) (oa : Option Addr) (oc i : Nat), me_ = E.length - i ∧ Only (fun b => False) w6 wr ∧ i ≤ E.length ∧ OwnR wr w6.heap.size 3 1 (.slice ca S.length cc) S.length (costsV S) ∧ OwnR wr w6.heap.size 34 1 (.slice oa S.length oc) S.length (begsV S) ∧ strip S = srtK (keyC p) ((E.take i).map BegE.xs) ∧ (∀ y ∈ S, y.2 ∈ E ∧ y.1 = keyC p y.2.xs) ∧ S.length = i ∧ Fr ac 65 [(1, .slice lr E.length lc9), (2, Vp w.heap.size), (5, .slice ca S.length cc), (6, .slice oa S.length oc), (7, Vi i)]) _ ⟨[], none, 0, none, 0, 0, rfl, Only.refl _ _, Nat.zero_le _, OwnR.nil _ _ _ _, OwnR.nil _ _ _ _, rfl, fun y hy => (by simp at hy), rfl, F.sub _⟩ ?_
 have hptB1 := hpt
 have hphB1 := hph
 have hpbB1 := hpb
 have hplB1 := hpl
 have hLrB1 := hLr
 have GB1 := G
 have hCB1 := hC
 clear F ac
 intro me_ ac w7 hI
 obtain ⟨S, ca, cc, oa, oc, i, rfl, hO1, hi, hcO, hoO, hst, hmS, hSl, F⟩ := hI
 replace G := GB1.trans (hO1.gr (fun _ _ h => h))
 replace hpt := (hP.t).gr G
 replace hph := (hP.h).gr G
 replace hpb := (hP.b).gr G
 replace hpl := (hP.l).gr G
 replace hLr := (hL).gr G
 replace hC := (RCells.cons (hO1.cell (hCB1.at 0 rfl) (fun h => h)) (RCells.cons (hO1.cell (hCB1.at 1 rfl) (fun h => h)) (RCells.cons (hO1.cell (hCB1.at 2 rfl) (fun h => h)) (RCells.cons (hO1.cell (hCB1.at 3 rfl) (fun h => h)) (RCells.nil _)))))
 refine Y.seq ?_
 refine Y.sg F [(1, .slice lr E.length lc9), (2, Vp w.heap.size), (5, .slice ca S.length cc), (6, .slice oa S.length oc), (7, Vi i), (13, .bool (decide ((i : Int) < E.length)))] (Y.pv F (X.move rfl (F.ev 7 (Vi i))) fun ac F=>Y.pv F (X.move rfl (F.ev 1 (.slice lr E.length lc9))) fun ac F=>Y.pv F (X.len1 Try.underlying38 rfl (F.ev 11 (.slice lr E.length lc9))) fun ac F=>Y.pv F (X.binop rfl (F.ev 10 (Vi i)) (F.ev 12 (Vi E.length)) (X.lssI Try.underlying3 rfl)) fun ac F=>Y.fin F) ?_;clear F ac;intro ac F
 cases h8 : decide ((i : Int) < E.length) with
 | false =>
  try rw [h8] at F
  have h8p : ¬ ((i : Int) < E.length) := of_decide_eq_false h8
  obtain rfl : i = E.length := by omega
  refine Y.condF (F.ev 13 (.bool false)) ?_
  refine Y.exit ?_
  refine X.thenX (X.thenX (X.blockX (X.thenN ?_)))
  refine Y.sg F [(4, .slice oa S.length oc)] (Y.pv F (X.move rfl (F.ev 6 (.slice oa S.length oc))) fun ac F=>Y.pv F (X.assign rfl (F.ev 64 (.slice oa S.length oc))) fun ac F=>Y.fin F) ?_;clear F ac;intro ac F
  refine Y.ret ?_
  exact Y.ret0 (v := .slice oa S.length oc) F (Y.r1 F) ⟨oa, oc, S, rfl, hoO.lower hwl0, by rw [hst, List.take_length], fun y hy => hmS y hy, G⟩
 | true =>
  try rw [h8] at F
  have h8p : ((i : Int) < E.length) := of_decide_eq_true h8
  refine Y.condT (F.ev 13 (.bool true)) ?_
  refine Y.skip ?_
  refine X.thenN ?_
  refine Y.seq ?_
  refine Y.block ?_
  refine Y.seq ?_
  obtain ⟨xr9, hxxr9⟩ : ∃ x, E[i]? = some x := ⟨_, List.getElem?_eq_getElem (by omega)⟩
  obtain ⟨pd9, pe9, pc9, pI9⟩ := hLr i xr9 hxxr9
  have hmx := hE xr9 (List.mem_of_getElem? hxxr9)
  subst pe9
  replace hC := hC.append (show RCells w7 ([(pd9.add i, .slice xr9.a xr9.xs.length xr9.c)]) from (RCells.cons pc9 (RCells.nil _)))
  clear pc9
  refine Y.region F [some (.agg #[.slice ta p.nt tc, .slice ha p.nh hc, .slice ba p.nb bc, .slice la p.nl lc]), some (.slice (some pd9) E.length lc9), some (Vi i), some (.pointer (some (pd9.add i))), some (.slice xr9.a xr9.xs.length xr9.c), some (Vi (bndV p xr9.xs)), some (Vi (bndV p xr9.xs))] [] rfl ⟨by kernel_rfl, of_decide_eq_true (by kernel_rfl), by kernel_rfl, by kernel_rfl, by kernel_rfl⟩ ⟨?_, ?_, ?_, ?_, ?_, ?_, ?_, trivial⟩ ?_
  ·intro ac done u W Sx hR
   have g : Gr w7 W := hR.1
   exact X.vl (X.load rfl (Sx.ev 2 (Vp w.heap.size)) (X.ldN (Try.agg27 _) (Try.siz27 _) (Y.atz (⟨w.heap.size, 0, none⟩) (Y.AtFrom.cons ((hC.gr g).at 0 rfl) (Y.AtFrom.cons ((hC.gr g).at 1 rfl) (Y.AtFrom.cons ((hC.gr g).at 2 rfl) (Y.AtFrom.cons ((hC.gr g).at 3 rfl) (Y.AtFrom.nil _ _ _)))))))) hR.st0
  ·intro ac done u W Sx hR
   exact X.vl (X.move rfl (Sx.ev 1 (.slice (some pd9) E.length lc9))) hR.st0
  ·intro ac done u W Sx hR
   exact X.vl (X.move rfl (Sx.ev 7 (Vi i))) hR.st0
  ·intro ac done u W Sx hR
   exact X.val (X.w0 rfl) rfl (X.index rfl (Sx.ev 17 (.slice (some pd9) E.length lc9)) (Sx.ev 18 (Vi i)) (X.idx (k := i) Try.underlying38 (Try.siz34 _) (by omega) (by omega) (by rw [Nat.mul_one]))) hR.st0
  ·intro ac done u W Sx hR
   have g : Gr w7 W := hR.1
   exact X.vl (X.load rfl (Sx.ev 19 (.pointer (some (pd9.add i)))) (X.ld1 (Try.agg34 _) ((hC.gr g).at 4 rfl))) hR.st0
  ·intro ac done u W Sx hR
   have g : Gr w7 W := hR.1
   refine X.call (X.w0 rfl) (X.enter (F := 77) rfl (X.kc (.func (.func 77) #[] #[]) rfl) (X.a2 (Sx.ev 16 (.agg #[.slice ta p.nt tc, .slice ha p.nh hc, .slice ba p.nb bc, .slice la p.nl lc])) (Sx.ev 20 (.slice xr9.a xr9.xs.length xr9.c))) (enters_of Try.func77 (by kernel_rfl) rfl _)) (bnd2_any p ta ha ba la tc hc bc lc xr9.a xr9.c xr9.xs W (hP.gr (G.trans g)) (pI9.gr g) hp hmx.1 (Nat.le_of_eq hmx.2)) ?_
   rintro e W2 ⟨rfl, g2⟩
   exact ⟨_, rfl, X.kn rfl, hR.step g2 rfl⟩
  ·intro ac done u W Sx hR
   exact X.vl (X.assign rfl (Sx.ev 21 (Vi (bndV p xr9.xs)))) hR.st0
  intro ac u w10 hs hd hl ho hR
  have g : Gr w7 w10 := hR.1
  replace F : Fr ac 65 [(1, .slice (some pd9) E.length lc9), (2, Vp w.heap.size), (5, .slice ca S.length cc), (6, .slice oa S.length oc), (7, Vi i), (8, Vi (bndV p xr9.xs))] := X.fr hs hd hl _ (by kernel_rfl)
  clear hs hd hl ho hR
  replace G := G.trans g
  replace hC := hC.gr g
  replace hO1 := hO1.thenGr g
  replace hpt := hpt.gr g
  replace hph := hph.gr g
  replace hpb := hpb.gr g
  replace hpl := hpl.gr g
  replace hLr := hLr.gr g
  replace hcO := hcO.gr g
  replace hoO := hoO.gr g
  replace pI9 := pI9.gr g
  clear g
  refine X.thenN ?_
  refine Y.sg F [(1, .slice (some pd9) E.length lc9), (2, Vp w.heap.size), (5, .slice ca S.length cc), (6, .slice oa S.length oc), (7, Vi i), (8, Vi (bndV p xr9.xs)), (9, Vi S.length)] (Y.pv F (X.move rfl (F.ev 6 (.slice oa S.length oc))) fun ac F=>Y.pv F (X.len1 Try.underlying38 rfl (F.ev 22 (.slice oa S.length oc))) fun ac F=>Y.pv F (X.assign rfl (F.ev 23 (Vi S.length))) fun ac F=>Y.fin F) ?_;clear F ac;intro ac F
  refine Y.seq ?_
  refine Y.block ?_
  refine Y.loop (fun me_ ac wr => ∃ (k : Nat), me_ = k + 1 ∧ Only (fun b => False) w10 wr ∧ k ≤ S.length ∧ posR S (0, bndV p xr9.xs) S.length = posR S (0, bndV p xr9.xs) k ∧ Fr ac 65 [(1, .slice (some pd9) E.length lc9), (2, Vp w.heap.size), (5, .slice ca S.length cc), (6, .slice oa S.length oc), (7, Vi i), (8, Vi (bndV p xr9.xs)), (9, Vi k)]) _ ⟨S.length, rfl, Only.refl _ _, Nat.le_refl _, rfl, F.sub _⟩ ?_
  have hptB2 := hpt
  have hphB2 := hph
  have hpbB2 := hpb
  have hplB2 := hpl
  have hLrB2 := hLr
  have hcOB2 := hcO
  have hoOB2 := hoO
  have pI9B2 := pI9
  have GB2 := G
  have hCB2 := hC
  clear F ac
  intro me_ ac w11 hI
  obtain ⟨k, rfl, hO2, hkS, hpp, F⟩ := hI
  replace G := GB2.trans (hO2.gr (fun _ _ h => h))
  replace hpt := (hP.t).gr G
  replace hph := (hP.h).gr G
  replace hpb := (hP.b).gr G
  replace hpl := (hP.l).gr G
  replace hLr := (hL).gr G
  replace hcO := hcOB2.gr (hO2.gr (fun _ _ h => h))
  replace hoO := hoOB2.gr (hO2.gr (fun _ _ h => h))
  replace pI9 := pI9B2.gr (hO2.gr (fun _ _ h => h))
  replace hC := (RCells.cons (hO2.cell (hCB2.at 0 rfl) (fun h => h)) (RCells.cons (hO2.cell (hCB2.at 1 rfl) (fun h => h)) (RCells.cons (hO2.cell (hCB2.at 2 rfl) (fun h => h)) (RCells.cons (hO2.cell (hCB2.at 3 rfl) (fun h => h)) (RCells.cons (hO2.cell (hCB2.at 4 rfl) (fun h => h)) (RCells.nil _))))))
  replace hO1 := hO1.step2 hO2 (fun r e => False.elim e)
  refine Y.seq ?_
  refine Y.sl ?_
  refine Y.pv3 F (X.move rfl (F.ev 9 (Vi k))) (fun _ F=>X.binop rfl (F.ev 24 (Vi k)) (X.kc (Vi 0) rfl) (X.gtrI Try.underlying3 rfl)) (fun _ F=>X.move rfl (F.ev 25 (.bool (decide ((0 : Int) < k))))) ?_;clear F ac;intro ac F
  cases h12 : decide ((0 : Int) < k) with
  | false =>
   try rw [h12] at F
   have h12p : ¬ ((0 : Int) < k) := of_decide_eq_false h12
   have hpos : posR S (0, bndV p xr9.xs) k = k := by rw [show k = 0 by omega]; rfl
   refine Y.ps F 2 26 false ?_;clear F ac;intro ac F
   refine Y.ps F 2 26 false ?_;clear F ac;intro ac F
   refine Y.ps F 2 26 false ?_;clear F ac;intro ac F
   refine Y.ps F 2 26 false ?_;clear F ac;intro ac F
   refine Y.ps F 2 26 false ?_;clear F ac;intro ac F
   refine Y.ps F 2 26 false ?_;clear F ac;intro ac F
   refine Y.ps F 2 26 false ?_;clear F ac;intro ac F
   refine Y.pv F (X.pickF rfl (F.ev 26 (.bool false)) (X.kc (.bool false) rfl)) ?_;clear F ac;intro ac F
   refine Y.nt F [(1, .slice (some pd9) E.length lc9), (2, Vp w.heap.size), (5, .slice ca S.length cc), (6, .slice oa S.length oc), (7, Vi i), (8, Vi (bndV p xr9.xs)), (9, Vi k), (34, .bool false)] ?_;clear F ac;intro ac F
   refine Y.condF (F.ev 34 (.bool false)) ?_
   refine Y.exit ?_
   refine X.thenX (X.thenX (X.blockX (X.thenN ?_)))
   refine Y.seq ?_
   have hgr10 : w6.heap.size ≤ w11.heap.size := by have h1 := hO1.size; have h2 := hO1.size; omega
   have hO1l := Nat.le_refl w6.heap.size
   have hk9 : posR S (0, bndV p xr9.xs) S.length = k := hpp.trans hpos
   have hst2 := srt_next hst hxxr9 hk9
   obtain ⟨S2, hS2⟩ : ∃ S2, S2 = insAt S k (keyC p xr9.xs, xr9) := ⟨_, rfl⟩
   have hS2l : S2.length = S.length + 1 := by rw [hS2]; exact ins_len hkS
   rw [← hS2] at hst2
   have hmS2 : ∀ y ∈ S2, y.2 ∈ E ∧ y.1 = keyC p y.2.xs := fun y hy => by
    rw [hS2] at hy
    rcases ins_mem hy with rfl | hy
    ·exact ⟨List.mem_of_getElem? hxxr9, rfl⟩
    ·exact hmS y hy
   have hle10 := hcO.le
   have hwG10 : w.heap.size ≤ w11.heap.size := G.size
   have hup : UpV (TiA w11.heap.size 3) ∧ UpV (TiR w11.heap.size 3 k ((costsV S).take k)) ∧ UpV (TiC 3 (Vi (bndV p xr9.xs))) ∧ UpV (TiR w11.heap.size 3 (k + 1) ((costsV S).take k ++ [Vi (bndV p xr9.xs)])) ∧ UpV (TiR w11.heap.size 3 (k + 1 + (S.length - k)) ((costsV S).take k ++ [Vi (bndV p xr9.xs)] ++ (costsV S).drop k)) := ⟨TiA.up _ _, TiR.up _ _ _ _, TiC.up _ _, TiR.up _ _ _ _, TiR.up _ _ _ _⟩
   refine region_xi F [none, some (.slice ca S.length cc), some (Vi k), some (.slice ca k cc), none, some (Vi (bndV p xr9.xs)), none, none, some (.slice ca S.length cc), some (Vi k), some (.slice (if cc = k then (ca : Option Addr) else Option.map (fun x : Addr => x.add (k * 1)) ca) (S.length - k) (cc - k)), none, none] (RC6 w11 0 4 6 7 11 12 (TiA w11.heap.size 3) (TiR w11.heap.size 3 k ((costsV S).take k)) (TiC 3 (Vi (bndV p xr9.xs))) (TiR w11.heap.size 3 (k + 1) ((costsV S).take k ++ [Vi (bndV p xr9.xs)])) (TiR w11.heap.size 3 (k + 1 + (S.length - k)) ((costsV S).take k ++ [Vi (bndV p xr9.xs)] ++ (costsV S).drop k))) rfl ⟨by kernel_rfl, of_decide_eq_true (by kernel_rfl), by kernel_rfl, by kernel_rfl, by kernel_rfl⟩ (fun _ => ⟨RC6.start (Gr.refl _), RC6.start (Gr.drew _)⟩) ⟨?_, ?_, ?_, ?_, ?_, ?_, ?_, ?_, ?_, ?_, ?_, ?_, ?_, trivial⟩ ?_
   ·intro ac done u W Sx hR
    have g : Gr w11 W := hR.g
    exact X.valN (X.w0 rfl) rfl (X.bs rfl X.bs0 (Try.bs34_0 _)) (hR.sa (by decide) hup (Gr.alloc _ _) ⟨_, rfl, ownR_new (heap_alloc_new _ _) g.size⟩)
   ·intro ac done u W Sx hR
    have g : Gr w11 W := hR.g
    exact X.vl (X.move rfl (Sx.ev 5 (.slice ca S.length cc))) (hR.quiet hup (Gr.refl _) (by decide))
   ·intro ac done u W Sx hR
    have g : Gr w11 W := hR.g
    exact X.vl (X.move rfl (Sx.ev 9 (Vi k))) (hR.quiet hup (Gr.refl _) (by decide))
   ·intro ac done u W Sx hR
    have g : Gr w11 W := hR.g
    exact X.vl (Y.slH (k := k) rfl (Sx.ev 38 (.slice ca S.length cc)) (Sx.ev 39 (Vi k)) Try.underlying34 (Try.siz3 _) (by omega) (by omega)) (hR.quiet hup (Gr.refl _) (by decide))
   ·intro ac done u W Sx hR
    have g : Gr w11 W := hR.g
    obtain ⟨a0, e0, hA⟩ := hR.ga (Sx.an 0 (by kernel_rfl)) Sx.nd
    obtain ⟨h1, h2⟩ := (hcO.gr g).headS hkS
    obtain ⟨a9, c9, W2, hrun, hO2, g2⟩ := run_copyN (P := Try.prog) (ts := 34) Try.underlying34 Try.info3 rfl (by decide) hA h1 (by rw [List.length_take, costs_len, Nat.mul_one]; exact Nat.min_eq_left hkS) h2 (all_take (costs_all S) k) (by omega) (by decide) g.size
    exact X.valN (X.w0 rfl) rfl (Y.apz rfl ((Sx.own 0 37 rfl).trans e0) (Sx.ev 40 (.slice ca k cc)) hrun) (hR.sb (by decide) hup g2 ⟨_, _, rfl, hO2⟩)
   ·intro ac done u W Sx hR
    have g : Gr w11 W := hR.g
    exact X.vl (X.move rfl (Sx.ev 8 (Vi (bndV p xr9.xs)))) (hR.quiet hup (Gr.refl _) (by decide))
   ·intro ac done u W Sx hR
    have g : Gr w11 W := hR.g
    exact X.valN (X.w0 rfl) rfl (X.bs rfl (X.b1 (Sx.ev 42 (Vi (bndV p xr9.xs)))) (Try.bs34_1 _ _)) (hR.sc (by decide) hup (Gr.alloc _ _) ⟨_, rfl, heap_alloc_new _ _⟩)
   ·intro ac done u W Sx hR
    have g : Gr w11 W := hR.g
    obtain ⟨b9, c9, e0, hB9⟩ := hR.gb (Sx.an 4 (by kernel_rfl)) Sx.nd
    obtain ⟨g9c, e1, hc9⟩ := hR.gc (Sx.an 6 (by kernel_rfl)) Sx.nd
    refine X.law (X.w0 rfl) (fun K_ hK => wp_pushV Try.underlying34 Try.info3 rfl (by decide) rfl ((Sx.own 4 41 rfl).trans e0) ((Sx.own 6 43 rfl).trans e1) hB9 (m := 1) (news := [Vi (bndV p xr9.xs)]) rfl (cells_at (vs := [Vi (bndV p xr9.xs)]) hc9) rfl (by omega) (by decide) g.size (fun v2 W2 hO2 hon hat => hK v2 W2 (fun x hx => by cases hx) (hR.sd (by decide) (Sx.an 4 (by kernel_rfl)) (Sx.no 11 (by kernel_rfl)) (Sx.no 12 (by kernel_rfl)) (OnlyG g hon (fun b e => (hB9.ge e).1)) ?_)))
    obtain ⟨a8, c8, rfl⟩ := hO2.form
    exact ⟨a8, c8, rfl, hO2⟩
   ·intro ac done u W Sx hR
    have g : Gr w11 W := hR.g
    exact X.vl (X.move rfl (Sx.ev 5 (.slice ca S.length cc))) (hR.quiet hup (Gr.refl _) (by decide))
   ·intro ac done u W Sx hR
    have g : Gr w11 W := hR.g
    exact X.vl (X.move rfl (Sx.ev 9 (Vi k))) (hR.quiet hup (Gr.refl _) (by decide))
   ·intro ac done u W Sx hR
    have g : Gr w11 W := hR.g
    exact X.vl (Y.slL (i := k) rfl (Sx.ev 45 (.slice ca S.length cc)) (Sx.ev 46 (Vi k)) Try.underlying34 (Try.siz3 _) rfl (by omega) (by omega)) (hR.quiet hup (Gr.refl _) (by decide))
   ·intro ac done u W Sx hR
    have g : Gr w11 W := hR.g
    obtain ⟨b9, c9, e0, hB9⟩ := hR.gd (Sx.an 7 (by kernel_rfl)) Sx.nd
    obtain ⟨h1, h2⟩ := (hcO.gr g).tailS hkS
    refine X.law (X.w0 rfl) (fun K_ hK => wp_pushG Try.underlying34 Try.info3 rfl (by decide) rfl ((Sx.own 7 44 rfl).trans e0) (Sx.ev 47 (.slice (if cc = k then (ca : Option Addr) else Option.map (fun x : Addr => x.add (k * 1)) ca) (S.length - k) (cc - k))) hB9 h1 (by rw [List.length_drop, costs_len, Nat.mul_one]) h2 (all_drop (costs_all S) k) (by omega) (by decide) g.size (fun v2 W2 hO2 hon hat => hK v2 W2 (fun x hx => by cases hx) (hR.se (by decide) (Sx.an 4 (by kernel_rfl)) (Sx.an 7 (by kernel_rfl)) (Sx.no 12 (by kernel_rfl)) (OnlyG g hon (fun b e => (hB9.ge e).1)) ?_)))
    obtain ⟨a8, c8, rfl⟩ := hO2.form
    exact ⟨a8, c8, rfl, hO2⟩
   ·intro ac done u W Sx hR
    have g : Gr w11 W := hR.g
    exact X.valN (X.w0 rfl) rfl (X.assign rfl (Sx.own 11 48 rfl)) (hR.sf (by decide) (Sx.an 4 (by kernel_rfl)) (Sx.an 7 (by kernel_rfl)) (Sx.an 11 (by kernel_rfl)))
   rintro ac u w13 hs hd hl_ ho hR
   have g : Gr w11 w13 := hR.g
   obtain ⟨ca2, cc2, e0, hO2⟩ := hR.ge rfl
   have e1 := (hR.gf rfl).trans e0
   rw [show k + 1 + (S.length - k) = S.length + 1 by omega] at hO2 e1
   have e9 : (costsV S).take k ++ [Vi (bndV p xr9.xs)] ++ (costsV S).drop k = costsV S2 := by rw [hS2]; exact costs_ins S k (keyC p xr9.xs, xr9)
   rw [e9] at hO2
   clear hup e9 e0
   replace F : Fr ac 65 [(1, .slice (some pd9) E.length lc9), (2, Vp w.heap.size), (6, .slice oa S.length oc), (7, Vi i), (9, Vi k)] := X.fr hs hd hl_ _ (by kernel_rfl)
   replace F := F.add (ho 12 5 rfl) e1
   clear hs hd hl_ ho hR e1
   replace F : Fr ac 65 [(1, .slice (some pd9) E.length lc9), (2, Vp w.heap.size), (5, .slice ca2 (S.length + 1) cc2), (6, .slice oa S.length oc), (7, Vi i), (9, Vi k)] := F.sub _
   replace G := G.trans g
   replace hC := hC.gr g
   replace hO1 := hO1.thenGr g
   replace hpt := hpt.gr g
   replace hph := hph.gr g
   replace hpb := hpb.gr g
   replace hpl := hpl.gr g
   replace hLr := hLr.gr g
   replace hcO := hcO.gr g
   replace hoO := hoO.gr g
   replace pI9 := pI9.gr g
   clear g
   replace hcO := hO2.lower (Nat.le_trans hO1l hgr10)
   clear hO2
   refine X.thenN ?_
   have hgr11 : w6.heap.size ≤ w13.heap.size := by have h1 := hO1.size; have h2 := hO1.size; omega
   have hO1l := Nat.le_refl w6.heap.size
   have hle11 := hoO.le
   have hwG11 : w.heap.size ≤ w13.heap.size := G.size
   have hup : UpV (TiA w13.heap.size 34) ∧ UpV (TiR w13.heap.size 34 k ((begsV S).take k)) ∧ UpV (TiC 34 (.slice xr9.a xr9.xs.length xr9.c)) ∧ UpV (TiR w13.heap.size 34 (k + 1) ((begsV S).take k ++ [.slice xr9.a xr9.xs.length xr9.c])) ∧ UpV (TiR w13.heap.size 34 (k + 1 + (S.length - k)) ((begsV S).take k ++ [.slice xr9.a xr9.xs.length xr9.c] ++ (begsV S).drop k)) := ⟨TiA.up _ _, TiR.up _ _ _ _, TiC.up _ _, TiR.up _ _ _ _, TiR.up _ _ _ _⟩
   refine region_xi F [none, some (.slice oa S.length oc), some (Vi k), some (.slice oa k oc), none, some (.slice (some pd9) E.length lc9), some (Vi i), some (.pointer (some (pd9.add i))), some (.slice xr9.a xr9.xs.length xr9.c), none, none, some (.slice oa S.length oc), some (Vi k), some (.slice (if oc = k then (oa : Option Addr) else Option.map (fun x : Addr => x.add (k * 1)) oa) (S.length - k) (oc - k)), none, none] (RC6 w13 0 4 9 10 14 15 (TiA w13.heap.size 34) (TiR w13.heap.size 34 k ((begsV S).take k)) (TiC 34 (.slice xr9.a xr9.xs.length xr9.c)) (TiR w13.heap.size 34 (k + 1) ((begsV S).take k ++ [.slice xr9.a xr9.xs.length xr9.c])) (TiR w13.heap.size 34 (k + 1 + (S.length - k)) ((begsV S).take k ++ [.slice xr9.a xr9.xs.length xr9.c] ++ (begsV S).drop k))) rfl ⟨by kernel_rfl, of_decide_eq_true (by kernel_rfl), by kernel_rfl, by kernel_rfl, by kernel_rfl⟩ (fun _ => ⟨RC6.start (Gr.refl _), RC6.start (Gr.drew _)⟩) ⟨?_, ?_, ?_, ?_, ?_, ?_, ?_, ?_, ?_, ?_, ?_, ?_, ?_, ?_, ?_, ?_, trivial⟩ ?_
   ·intro ac done u W Sx hR
    have g : Gr w13 W := hR.g
    exact X.valN (X.w0 rfl) rfl (X.bs rfl X.bs0 (Try.bs38_0 _)) (hR.sa (by decide) hup (Gr.alloc _ _) ⟨_, rfl, ownR_new (heap_alloc_new _ _) g.size⟩)
   ·intro ac done u W Sx hR
    have g : Gr w13 W := hR.g
    exact X.vl (X.move rfl (Sx.ev 6 (.slice oa S.length oc))) (hR.quiet hup (Gr.refl _) (by decide))
   ·intro ac done u W Sx hR
    have g : Gr w13 W := hR.g
    exact X.vl (X.move rfl (Sx.ev 9 (Vi k))) (hR.quiet hup (Gr.refl _) (by decide))
   ·intro ac done u W Sx hR
    have g : Gr w13 W := hR.g
    exact X.vl (Y.slH (k := k) rfl (Sx.ev 50 (.slice oa S.length oc)) (Sx.ev 51 (Vi k)) Try.underlying38 (Try.siz34 _) (by omega) (by omega)) (hR.quiet hup (Gr.refl _) (by decide))
   ·intro ac done u W Sx hR
    have g : Gr w13 W := hR.g
    obtain ⟨a0, e0, hA⟩ := hR.ga (Sx.an 0 (by kernel_rfl)) Sx.nd
    obtain ⟨h1, h2⟩ := (hoO.gr g).headS hkS
    obtain ⟨a9, c9, W2, hrun, hO2, g2⟩ := run_copyN (P := Try.prog) (ts := 38) Try.underlying38 Try.info34 rfl (by decide) hA h1 (by rw [List.length_take, begs_len, Nat.mul_one]; exact Nat.min_eq_left hkS) h2 (all_take (begs_all S) k) (by omega) (by decide) g.size
    exact X.valN (X.w0 rfl) rfl (Y.apz rfl ((Sx.own 0 49 rfl).trans e0) (Sx.ev 52 (.slice oa k oc)) hrun) (hR.sb (by decide) hup g2 ⟨_, _, rfl, hO2⟩)
   ·intro ac done u W Sx hR
    have g : Gr w13 W := hR.g
    exact X.vl (X.move rfl (Sx.ev 1 (.slice (some pd9) E.length lc9))) (hR.quiet hup (Gr.refl _) (by decide))
   ·intro ac done u W Sx hR
    have g : Gr w13 W := hR.g
    exact X.vl (X.move rfl (Sx.ev 7 (Vi i))) (hR.quiet hup (Gr.refl _) (by decide))
   ·intro ac done u W Sx hR
    have g : Gr w13 W := hR.g
    exact X.val (X.w0 rfl) rfl (X.index rfl (Sx.ev 54 (.slice (some pd9) E.length lc9)) (Sx.ev 55 (Vi i)) (X.idx (k := i) Try.underlying38 (Try.siz34 _) (by omega) (by omega) (by rw [Nat.mul_one]))) (hR.quiet hup (Gr.refl _) (by decide))
   ·intro ac done u W Sx hR
    have g : Gr w13 W := hR.g
    exact X.vl (X.load rfl (Sx.ev 56 (.pointer (some (pd9.add i)))) (X.ld1 (Try.agg34 _) ((hC.gr g).at 4 rfl))) (hR.quiet hup (Gr.refl _) (by decide))
   ·intro ac done u W Sx hR
    have g : Gr w13 W := hR.g
    exact X.valN (X.w0 rfl) rfl (X.bs rfl (X.b1 (Sx.ev 57 (.slice xr9.a xr9.xs.length xr9.c))) (Try.bs38_1 _ _ _ _)) (hR.sc (by decide) hup (Gr.alloc _ _) ⟨_, rfl, heap_alloc_new _ _⟩)
   ·intro ac done u W Sx hR
    have g : Gr w13 W := hR.g
    obtain ⟨b9, c9, e0, hB9⟩ := hR.gb (Sx.an 4 (by kernel_rfl)) Sx.nd
    obtain ⟨g9c, e1, hc9⟩ := hR.gc (Sx.an 9 (by kernel_rfl)) Sx.nd
    refine X.law (X.w0 rfl) (fun K_ hK => wp_pushV Try.underlying38 Try.info34 rfl (by decide) rfl ((Sx.own 4 53 rfl).trans e0) ((Sx.own 9 58 rfl).trans e1) hB9 (m := 1) (news := [.slice xr9.a xr9.xs.length xr9.c]) rfl (cells_at (vs := [.slice xr9.a xr9.xs.length xr9.c]) hc9) rfl (by omega) (by decide) g.size (fun v2 W2 hO2 hon hat => hK v2 W2 (fun x hx => by cases hx) (hR.sd (by decide) (Sx.an 4 (by kernel_rfl)) (Sx.no 14 (by kernel_rfl)) (Sx.no 15 (by kernel_rfl)) (OnlyG g hon (fun b e => (hB9.ge e).1)) ?_)))
    obtain ⟨a8, c8, rfl⟩ := hO2.form
    exact ⟨a8, c8, rfl, hO2⟩
   ·intro ac done u W Sx hR
    have g : Gr w13 W := hR.g
    exact X.vl (X.move rfl (Sx.ev 6 (.slice oa S.length oc))) (hR.quiet hup (Gr.refl _) (by decide))
   ·intro ac done u W Sx hR
    have g : Gr w13 W := hR.g
    exact X.vl (X.move rfl (Sx.ev 9 (Vi k))) (hR.quiet hup (Gr.refl _) (by decide))
   ·intro ac done u W Sx hR
    have g : Gr w13 W := hR.g
    exact X.vl (Y.slL (i := k) rfl (Sx.ev 60 (.slice oa S.length oc)) (Sx.ev 61 (Vi k)) Try.underlying38 (Try.siz34 _) rfl (by omega) (by omega)) (hR.quiet hup (Gr.refl _) (by decide))
   ·intro ac done u W Sx hR
    have g : Gr w13 W := hR.g
    obtain ⟨b9, c9, e0, hB9⟩ := hR.gd (Sx.an 10 (by kernel_rfl)) Sx.nd
    obtain ⟨h1, h2⟩ := (hoO.gr g).tailS hkS
    refine X.law (X.w0 rfl) (fun K_ hK => wp_pushG Try.underlying38 Try.info34 rfl (by decide) rfl ((Sx.own 10 59 rfl).trans e0) (Sx.ev 62 (.slice (if oc = k then (oa : Option Addr) else Option.map (fun x : Addr => x.add (k * 1)) oa) (S.length - k) (oc - k))) hB9 h1 (by rw [List.length_drop, begs_len, Nat.mul_one]) h2 (all_drop (begs_all S) k) (by omega) (by decide) g.size (fun v2 W2 hO2 hon hat => hK v2 W2 (fun x hx => by cases hx) (hR.se (by decide) (Sx.an 4 (by kernel_rfl)) (Sx.an 10 (by kernel_rfl)) (Sx.no 15 (by kernel_rfl)) (OnlyG g hon (fun b e => (hB9.ge e).1)) ?_)))
    obtain ⟨a8, c8, rfl⟩ := hO2.form
    exact ⟨a8, c8, rfl, hO2⟩
   ·intro ac done u W Sx hR
    have g : Gr w13 W := hR.g
    exact X.valN (X.w0 rfl) rfl (X.assign rfl (Sx.own 14 63 rfl)) (hR.sf (by decide) (Sx.an 4 (by kernel_rfl)) (Sx.an 10 (by kernel_rfl)) (Sx.an 14 (by kernel_rfl)))
   rintro ac u w14 hs hd hl_ ho hR
   have g : Gr w13 w14 := hR.g
   obtain ⟨oa2, oc2, e0, hO2⟩ := hR.ge rfl
   have e1 := (hR.gf rfl).trans e0
   rw [show k + 1 + (S.length - k) = S.length + 1 by omega] at hO2 e1
   have e9 : (begsV S).take k ++ [.slice xr9.a xr9.xs.length xr9.c] ++ (begsV S).drop k = begsV S2 := by rw [hS2]; exact begs_ins1 S k (keyC p xr9.xs, xr9)
   rw [e9] at hO2
   clear hup e9 e0
   replace F : Fr ac 65 [(1, .slice (some pd9) E.length lc9), (2, Vp w.heap.size), (5, .slice ca2 (S.length + 1) cc2), (7, Vi i)] := X.fr hs hd hl_ _ (by kernel_rfl)
   replace F := F.add (ho 15 6 rfl) e1
   clear hs hd hl_ ho hR e1
   replace F : Fr ac 65 [(1, .slice (some pd9) E.length lc9), (2, Vp w.heap.size), (5, .slice ca2 (S.length + 1) cc2), (6, .slice oa2 (S.length + 1) oc2), (7, Vi i)] := F.sub _
   replace G := G.trans g
   replace hC := hC.gr g
   replace hO1 := hO1.thenGr g
   replace hpt := hpt.gr g
   replace hph := hph.gr g
   replace hpb := hpb.gr g
   replace hpl := hpl.gr g
   replace hLr := hLr.gr g
   replace hcO := hcO.gr g
   replace hoO := hoO.gr g
   replace pI9 := pI9.gr g
   clear g
   replace hoO := hO2.lower (Nat.le_trans hO1l hgr11)
   clear hO2
   refine X.blockN (X.thenN ?_)
   refine Y.lg F [(1, .slice (some pd9) E.length lc9), (2, Vp w.heap.size), (5, .slice ca2 (S.length + 1) cc2), (6, .slice oa2 (S.length + 1) oc2), (7, Vi ((i : Int) + 1))] (by
    refine Y.pv F (X.move rfl (F.ev 7 (Vi i))) fun ac F=>?_
    refine Y.pv F (X.binop rfl (F.ev 14 (Vi i)) (X.kc (Vi 1) rfl) (X.addI Try.underlying3 rfl (by omega) (by omega))) fun ac F=>?_
    refine Y.pv F (X.assign rfl (F.ev 15 (Vi ((i : Int) + 1)))) fun ac F=>?_
    exact Y.fin F) ?_;clear F ac;intro ac F
   refine ⟨_, ?_, S2, ca2, cc2, oa2, oc2, i + 1, rfl, hO1, by omega, by rw [hS2l]; exact hcO, by rw [hS2l]; exact hoO, hst2, hmS2, by omega, (by rw [hS2l]; exact F.sub _)⟩
   omega
  | true =>
   try rw [h12] at F
   have h12p : ((0 : Int) < k) := of_decide_eq_true h12
   obtain ⟨y, hy⟩ : ∃ y, S[k - 1]? = some y := ⟨_, List.getElem?_eq_getElem (by omega)⟩
   have hy0 : y.1.1 = 0 := by rw [(hmS y (List.mem_of_getElem? hy)).2]; rfl
   obtain ⟨g9, Lr, rfl, -⟩ := hcO.row (by omega)
   replace hC := hC.append (show RCells w11 ([(⟨g9, (k - 1), none⟩, Vi y.1.2)]) from (RCells.cons (costs_cell hcO hy) (RCells.nil _)))
   refine Y.pg F 2 26 true (X.move rfl (F.ev 5 (.slice (some ⟨g9, 0, none⟩) S.length cc))) ?_;clear F ac;intro ac F
   refine Y.pg F 2 26 true (X.move rfl (F.ev 9 (Vi k))) ?_;clear F ac;intro ac F
   refine Y.pg F 2 26 true (X.binop rfl (F.ev 28 (Vi k)) (X.kc (Vi 1) rfl) (X.subI Try.underlying3 rfl (by omega) (by omega))) ?_;clear F ac;intro ac F
   refine Y.pg F 2 26 true (X.index rfl (F.ev 27 (.slice (some ⟨g9, 0, none⟩) S.length cc)) (F.ev 29 (Vi ((k : Int) - 1))) (X.idx (k := k - 1) Try.underlying34 (Try.siz3 _) (by omega) (by omega) ((addr_add0 _ _).trans (by rw [Nat.mul_one])))) ?_;clear F ac;intro ac F
   refine Y.pg F 2 26 true (X.load rfl (F.ev 30 (.pointer (some ⟨g9, (k - 1), none⟩))) (X.ld1 (Try.agg3 _) (hC.at 5 rfl))) ?_;clear F ac;intro ac F
   refine Y.pg F 2 26 true (X.move rfl (F.ev 8 (Vi (bndV p xr9.xs)))) ?_;clear F ac;intro ac F
   refine Y.pg F 2 26 true (X.binop rfl (F.ev 31 (Vi y.1.2)) (F.ev 32 (Vi (bndV p xr9.xs))) (X.gtrI Try.underlying3 rfl)) ?_;clear F ac;intro ac F
   refine Y.pv F (X.pickT rfl (F.ev 26 (.bool true)) (F.ev 33 (.bool (decide ((bndV p xr9.xs : Int) < y.1.2))))) ?_;clear F ac;intro ac F
   refine Y.nt F [(1, .slice (some pd9) E.length lc9), (2, Vp w.heap.size), (5, .slice (some ⟨g9, 0, none⟩) S.length cc), (6, .slice oa S.length oc), (7, Vi i), (8, Vi (bndV p xr9.xs)), (9, Vi k), (34, .bool (decide ((bndV p xr9.xs : Int) < y.1.2)))] ?_;clear F ac;intro ac F
   cases h15 : decide ((bndV p xr9.xs : Int) < y.1.2) with
   | false =>
    try rw [h15] at F
    have h15p : ¬ ((bndV p xr9.xs : Int) < y.1.2) := of_decide_eq_false h15
    have hlt9 : ltK (0, bndV p xr9.xs) y.1 = false := (lt_c hy0).trans h15
    have hpos := pos_ge (k := (0, bndV p xr9.xs)) (by omega) hy hlt9
    refine Y.condF (F.ev 34 (.bool false)) ?_
    refine Y.exit ?_
    refine X.thenX (X.thenX (X.blockX (X.thenN ?_)))
    refine Y.seq ?_
    have hgr10 : w6.heap.size ≤ w11.heap.size := by have h1 := hO1.size; have h2 := hO1.size; omega
    have hO1l := Nat.le_refl w6.heap.size
    have hk9 : posR S (0, bndV p xr9.xs) S.length = k := hpp.trans hpos
    have hst2 := srt_next hst hxxr9 hk9
    obtain ⟨S2, hS2⟩ : ∃ S2, S2 = insAt S k (keyC p xr9.xs, xr9) := ⟨_, rfl⟩
    have hS2l : S2.length = S.length + 1 := by rw [hS2]; exact ins_len hkS
    rw [← hS2] at hst2
    have hmS2 : ∀ y ∈ S2, y.2 ∈ E ∧ y.1 = keyC p y.2.xs := fun y hy => by
     rw [hS2] at hy
     rcases ins_mem hy with rfl | hy
     ·exact ⟨List.mem_of_getElem? hxxr9, rfl⟩
     ·exact hmS y hy
    have hle10 := hcO.le
    have hwG10 : w.heap.size ≤ w11.heap.size := G.size
    have hup : UpV (TiA w11.heap.size 3) ∧ UpV (TiR w11.heap.size 3 k ((costsV S).take k)) ∧ UpV (TiC 3 (Vi (bndV p xr9.xs))) ∧ UpV (TiR w11.heap.size 3 (k + 1) ((costsV S).take k ++ [Vi (bndV p xr9.xs)])) ∧ UpV (TiR w11.heap.size 3 (k + 1 + (S.length - k)) ((costsV S).take k ++ [Vi (bndV p xr9.xs)] ++ (costsV S).drop k)) := ⟨TiA.up _ _, TiR.up _ _ _ _, TiC.up _ _, TiR.up _ _ _ _, TiR.up _ _ _ _⟩
    refine region_xi F [none, some (.slice (some ⟨g9, 0, none⟩) S.length cc), some (Vi k), some (.slice (some ⟨g9, 0, none⟩) k cc), none, some (Vi (bndV p xr9.xs)), none, none, some (.slice (some ⟨g9, 0, none⟩) S.length cc), some (Vi k), some (.slice (if cc = k then ((some ⟨g9, 0, none⟩) : Option Addr) else Option.map (fun x : Addr => x.add (k * 1)) (some ⟨g9, 0, none⟩)) (S.length - k) (cc - k)), none, none] (RC6 w11 0 4 6 7 11 12 (TiA w11.heap.size 3) (TiR w11.heap.size 3 k ((costsV S).take k)) (TiC 3 (Vi (bndV p xr9.xs))) (TiR w11.heap.size 3 (k + 1) ((costsV S).take k ++ [Vi (bndV p xr9.xs)])) (TiR w11.heap.size 3 (k + 1 + (S.length - k)) ((costsV S).take k ++ [Vi (bndV p xr9.xs)] ++ (costsV S).drop k))) rfl ⟨by kernel_rfl, of_decide_eq_true (by kernel_rfl), by kernel_rfl, by kernel_rfl, by kernel_rfl⟩ (fun _ => ⟨RC6.start (Gr.refl _), RC6.start (Gr.drew _)⟩) ⟨?_, ?_, ?_, ?_, ?_, ?_, ?_, ?_, ?_, ?_, ?_, ?_, ?_, trivial⟩ ?_
    ·intro ac done u W Sx hR
     have g : Gr w11 W := hR.g
     exact X.valN (X.w0 rfl) rfl (X.bs rfl X.bs0 (Try.bs34_0 _)) (hR.sa (by decide) hup (Gr.alloc _ _) ⟨_, rfl, ownR_new (heap_alloc_new _ _) g.size⟩)
    ·intro ac done u W Sx hR
     have g : Gr w11 W := hR.g
     exact X.vl (X.move rfl (Sx.ev 5 (.slice (some ⟨g9, 0, none⟩) S.length cc))) (hR.quiet hup (Gr.refl _) (by decide))
    ·intro ac done u W Sx hR
     have g : Gr w11 W := hR.g
     exact X.vl (X.move rfl (Sx.ev 9 (Vi k))) (hR.quiet hup (Gr.refl _) (by decide))
    ·intro ac done u W Sx hR
     have g : Gr w11 W := hR.g
     exact X.vl (Y.slH (k := k) rfl (Sx.ev 38 (.slice (some ⟨g9, 0, none⟩) S.length cc)) (Sx.ev 39 (Vi k)) Try.underlying34 (Try.siz3 _) (by omega) (by omega)) (hR.quiet hup (Gr.refl _) (by decide))
    ·intro ac done u W Sx hR
     have g : Gr w11 W := hR.g
     obtain ⟨a0, e0, hA⟩ := hR.ga (Sx.an 0 (by kernel_rfl)) Sx.nd
     obtain ⟨h1, h2⟩ := (hcO.gr g).headS hkS
     obtain ⟨a9, c9, W2, hrun, hO2, g2⟩ := run_copyN (P := Try.prog) (ts := 34) Try.underlying34 Try.info3 rfl (by decide) hA h1 (by rw [List.length_take, costs_len, Nat.mul_one]; exact Nat.min_eq_left hkS) h2 (all_take (costs_all S) k) (by omega) (by decide) g.size
     exact X.valN (X.w0 rfl) rfl (Y.apz rfl ((Sx.own 0 37 rfl).trans e0) (Sx.ev 40 (.slice (some ⟨g9, 0, none⟩) k cc)) hrun) (hR.sb (by decide) hup g2 ⟨_, _, rfl, hO2⟩)
    ·intro ac done u W Sx hR
     have g : Gr w11 W := hR.g
     exact X.vl (X.move rfl (Sx.ev 8 (Vi (bndV p xr9.xs)))) (hR.quiet hup (Gr.refl _) (by decide))
    ·intro ac done u W Sx hR
     have g : Gr w11 W := hR.g
     exact X.valN (X.w0 rfl) rfl (X.bs rfl (X.b1 (Sx.ev 42 (Vi (bndV p xr9.xs)))) (Try.bs34_1 _ _)) (hR.sc (by decide) hup (Gr.alloc _ _) ⟨_, rfl, heap_alloc_new _ _⟩)
    ·intro ac done u W Sx hR
     have g : Gr w11 W := hR.g
     obtain ⟨b9, c9, e0, hB9⟩ := hR.gb (Sx.an 4 (by kernel_rfl)) Sx.nd
     obtain ⟨g9c, e1, hc9⟩ := hR.gc (Sx.an 6 (by kernel_rfl)) Sx.nd
     refine X.law (X.w0 rfl) (fun K_ hK => wp_pushV Try.underlying34 Try.info3 rfl (by decide) rfl ((Sx.own 4 41 rfl).trans e0) ((Sx.own 6 43 rfl).trans e1) hB9 (m := 1) (news := [Vi (bndV p xr9.xs)]) rfl (cells_at (vs := [Vi (bndV p xr9.xs)]) hc9) rfl (by omega) (by decide) g.size (fun v2 W2 hO2 hon hat => hK v2 W2 (fun x hx => by cases hx) (hR.sd (by decide) (Sx.an 4 (by kernel_rfl)) (Sx.no 11 (by kernel_rfl)) (Sx.no 12 (by kernel_rfl)) (OnlyG g hon (fun b e => (hB9.ge e).1)) ?_)))
     obtain ⟨a8, c8, rfl⟩ := hO2.form
     exact ⟨a8, c8, rfl, hO2⟩
    ·intro ac done u W Sx hR
     have g : Gr w11 W := hR.g
     exact X.vl (X.move rfl (Sx.ev 5 (.slice (some ⟨g9, 0, none⟩) S.length cc))) (hR.quiet hup (Gr.refl _) (by decide))
    ·intro ac done u W Sx hR
     have g : Gr w11 W := hR.g
     exact X.vl (X.move rfl (Sx.ev 9 (Vi k))) (hR.quiet hup (Gr.refl _) (by decide))
    ·intro ac done u W Sx hR
     have g : Gr w11 W := hR.g
     exact X.vl (Y.slL (i := k) rfl (Sx.ev 45 (.slice (some ⟨g9, 0, none⟩) S.length cc)) (Sx.ev 46 (Vi k)) Try.underlying34 (Try.siz3 _) rfl (by omega) (by omega)) (hR.quiet hup (Gr.refl _) (by decide))
    ·intro ac done u W Sx hR
     have g : Gr w11 W := hR.g
     obtain ⟨b9, c9, e0, hB9⟩ := hR.gd (Sx.an 7 (by kernel_rfl)) Sx.nd
     obtain ⟨h1, h2⟩ := (hcO.gr g).tailS hkS
     refine X.law (X.w0 rfl) (fun K_ hK => wp_pushG Try.underlying34 Try.info3 rfl (by decide) rfl ((Sx.own 7 44 rfl).trans e0) (Sx.ev 47 (.slice (if cc = k then ((some ⟨g9, 0, none⟩) : Option Addr) else Option.map (fun x : Addr => x.add (k * 1)) (some ⟨g9, 0, none⟩)) (S.length - k) (cc - k))) hB9 h1 (by rw [List.length_drop, costs_len, Nat.mul_one]) h2 (all_drop (costs_all S) k) (by omega) (by decide) g.size (fun v2 W2 hO2 hon hat => hK v2 W2 (fun x hx => by cases hx) (hR.se (by decide) (Sx.an 4 (by kernel_rfl)) (Sx.an 7 (by kernel_rfl)) (Sx.no 12 (by kernel_rfl)) (OnlyG g hon (fun b e => (hB9.ge e).1)) ?_)))
     obtain ⟨a8, c8, rfl⟩ := hO2.form
     exact ⟨a8, c8, rfl, hO2⟩
    ·intro ac done u W Sx hR
     have g : Gr w11 W := hR.g
     exact X.valN (X.w0 rfl) rfl (X.assign rfl (Sx.own 11 48 rfl)) (hR.sf (by decide) (Sx.an 4 (by kernel_rfl)) (Sx.an 7 (by kernel_rfl)) (Sx.an 11 (by kernel_rfl)))
    rintro ac u w16 hs hd hl_ ho hR
    have g : Gr w11 w16 := hR.g
    obtain ⟨ca2, cc2, e0, hO2⟩ := hR.ge rfl
    have e1 := (hR.gf rfl).trans e0
    rw [show k + 1 + (S.length - k) = S.length + 1 by omega] at hO2 e1
    have e9 : (costsV S).take k ++ [Vi (bndV p xr9.xs)] ++ (costsV S).drop k = costsV S2 := by rw [hS2]; exact costs_ins S k (keyC p xr9.xs, xr9)
    rw [e9] at hO2
    clear hup e9 e0
    replace F : Fr ac 65 [(1, .slice (some pd9) E.length lc9), (2, Vp w.heap.size), (6, .slice oa S.length oc), (7, Vi i), (9, Vi k)] := X.fr hs hd hl_ _ (by kernel_rfl)
    replace F := F.add (ho 12 5 rfl) e1
    clear hs hd hl_ ho hR e1
    replace F : Fr ac 65 [(1, .slice (some pd9) E.length lc9), (2, Vp w.heap.size), (5, .slice ca2 (S.length + 1) cc2), (6, .slice oa S.length oc), (7, Vi i), (9, Vi k)] := F.sub _
    replace G := G.trans g
    replace hC := hC.gr g
    replace hO1 := hO1.thenGr g
    replace hpt := hpt.gr g
    replace hph := hph.gr g
    replace hpb := hpb.gr g
    replace hpl := hpl.gr g
    replace hLr := hLr.gr g
    replace hcO := hcO.gr g
    replace hoO := hoO.gr g
    replace pI9 := pI9.gr g
    clear g
    replace hcO := hO2.lower (Nat.le_trans hO1l hgr10)
    clear hO2
    refine X.thenN ?_
    have hgr11 : w6.heap.size ≤ w16.heap.size := by have h1 := hO1.size; have h2 := hO1.size; omega
    have hO1l := Nat.le_refl w6.heap.size
    have hle11 := hoO.le
    have hwG11 : w.heap.size ≤ w16.heap.size := G.size
    have hup : UpV (TiA w16.heap.size 34) ∧ UpV (TiR w16.heap.size 34 k ((begsV S).take k)) ∧ UpV (TiC 34 (.slice xr9.a xr9.xs.length xr9.c)) ∧ UpV (TiR w16.heap.size 34 (k + 1) ((begsV S).take k ++ [.slice xr9.a xr9.xs.length xr9.c])) ∧ UpV (TiR w16.heap.size 34 (k + 1 + (S.length - k)) ((begsV S).take k ++ [.slice xr9.a xr9.xs.length xr9.c] ++ (begsV S).drop k)) := ⟨TiA.up _ _, TiR.up _ _ _ _, TiC.up _ _, TiR.up _ _ _ _, TiR.up _ _ _ _⟩
    refine region_xi F [none, some (.slice oa S.length oc), some (Vi k), some (.slice oa k oc), none, some (.slice (some pd9) E.length lc9), some (Vi i), some (.pointer (some (pd9.add i))), some (.slice xr9.a xr9.xs.length xr9.c), none, none, some (.slice oa S.length oc), some (Vi k), some (.slice (if oc = k then (oa : Option Addr) else Option.map (fun x : Addr => x.add (k * 1)) oa) (S.length - k) (oc - k)), none, none] (RC6 w16 0 4 9 10 14 15 (TiA w16.heap.size 34) (TiR w16.heap.size 34 k ((begsV S).take k)) (TiC 34 (.slice xr9.a xr9.xs.length xr9.c)) (TiR w16.heap.size 34 (k + 1) ((begsV S).take k ++ [.slice xr9.a xr9.xs.length xr9.c])) (TiR w16.heap.size 34 (k + 1 + (S.length - k)) ((begsV S).take k ++ [.slice xr9.a xr9.xs.length xr9.c] ++ (begsV S).drop k))) rfl ⟨by kernel_rfl, of_decide_eq_true (by kernel_rfl), by kernel_rfl, by kernel_rfl, by kernel_rfl⟩ (fun _ => ⟨RC6.start (Gr.refl _), RC6.start (Gr.drew _)⟩) ⟨?_, ?_, ?_, ?_, ?_, ?_, ?_, ?_, ?_, ?_, ?_, ?_, ?_, ?_, ?_, ?_, trivial⟩ ?_
    ·intro ac done u W Sx hR
     have g : Gr w16 W := hR.g
     exact X.valN (X.w0 rfl) rfl (X.bs rfl X.bs0 (Try.bs38_0 _)) (hR.sa (by decide) hup (Gr.alloc _ _) ⟨_, rfl, ownR_new (heap_alloc_new _ _) g.size⟩)
    ·intro ac done u W Sx hR
     have g : Gr w16 W := hR.g
     exact X.vl (X.move rfl (Sx.ev 6 (.slice oa S.length oc))) (hR.quiet hup (Gr.refl _) (by decide))
    ·intro ac done u W Sx hR
     have g : Gr w16 W := hR.g
     exact X.vl (X.move rfl (Sx.ev 9 (Vi k))) (hR.quiet hup (Gr.refl _) (by decide))
    ·intro ac done u W Sx hR
     have g : Gr w16 W := hR.g
     exact X.vl (Y.slH (k := k) rfl (Sx.ev 50 (.slice oa S.length oc)) (Sx.ev 51 (Vi k)) Try.underlying38 (Try.siz34 _) (by omega) (by omega)) (hR.quiet hup (Gr.refl _) (by decide))
    ·intro ac done u W Sx hR
     have g : Gr w16 W := hR.g
     obtain ⟨a0, e0, hA⟩ := hR.ga (Sx.an 0 (by kernel_rfl)) Sx.nd
     obtain ⟨h1, h2⟩ := (hoO.gr g).headS hkS
     obtain ⟨a9, c9, W2, hrun, hO2, g2⟩ := run_copyN (P := Try.prog) (ts := 38) Try.underlying38 Try.info34 rfl (by decide) hA h1 (by rw [List.length_take, begs_len, Nat.mul_one]; exact Nat.min_eq_left hkS) h2 (all_take (begs_all S) k) (by omega) (by decide) g.size
     exact X.valN (X.w0 rfl) rfl (Y.apz rfl ((Sx.own 0 49 rfl).trans e0) (Sx.ev 52 (.slice oa k oc)) hrun) (hR.sb (by decide) hup g2 ⟨_, _, rfl, hO2⟩)
    ·intro ac done u W Sx hR
     have g : Gr w16 W := hR.g
     exact X.vl (X.move rfl (Sx.ev 1 (.slice (some pd9) E.length lc9))) (hR.quiet hup (Gr.refl _) (by decide))
    ·intro ac done u W Sx hR
     have g : Gr w16 W := hR.g
     exact X.vl (X.move rfl (Sx.ev 7 (Vi i))) (hR.quiet hup (Gr.refl _) (by decide))
    ·intro ac done u W Sx hR
     have g : Gr w16 W := hR.g
     exact X.val (X.w0 rfl) rfl (X.index rfl (Sx.ev 54 (.slice (some pd9) E.length lc9)) (Sx.ev 55 (Vi i)) (X.idx (k := i) Try.underlying38 (Try.siz34 _) (by omega) (by omega) (by rw [Nat.mul_one]))) (hR.quiet hup (Gr.refl _) (by decide))
    ·intro ac done u W Sx hR
     have g : Gr w16 W := hR.g
     exact X.vl (X.load rfl (Sx.ev 56 (.pointer (some (pd9.add i)))) (X.ld1 (Try.agg34 _) ((hC.gr g).at 4 rfl))) (hR.quiet hup (Gr.refl _) (by decide))
    ·intro ac done u W Sx hR
     have g : Gr w16 W := hR.g
     exact X.valN (X.w0 rfl) rfl (X.bs rfl (X.b1 (Sx.ev 57 (.slice xr9.a xr9.xs.length xr9.c))) (Try.bs38_1 _ _ _ _)) (hR.sc (by decide) hup (Gr.alloc _ _) ⟨_, rfl, heap_alloc_new _ _⟩)
    ·intro ac done u W Sx hR
     have g : Gr w16 W := hR.g
     obtain ⟨b9, c9, e0, hB9⟩ := hR.gb (Sx.an 4 (by kernel_rfl)) Sx.nd
     obtain ⟨g9c, e1, hc9⟩ := hR.gc (Sx.an 9 (by kernel_rfl)) Sx.nd
     refine X.law (X.w0 rfl) (fun K_ hK => wp_pushV Try.underlying38 Try.info34 rfl (by decide) rfl ((Sx.own 4 53 rfl).trans e0) ((Sx.own 9 58 rfl).trans e1) hB9 (m := 1) (news := [.slice xr9.a xr9.xs.length xr9.c]) rfl (cells_at (vs := [.slice xr9.a xr9.xs.length xr9.c]) hc9) rfl (by omega) (by decide) g.size (fun v2 W2 hO2 hon hat => hK v2 W2 (fun x hx => by cases hx) (hR.sd (by decide) (Sx.an 4 (by kernel_rfl)) (Sx.no 14 (by kernel_rfl)) (Sx.no 15 (by kernel_rfl)) (OnlyG g hon (fun b e => (hB9.ge e).1)) ?_)))
     obtain ⟨a8, c8, rfl⟩ := hO2.form
     exact ⟨a8, c8, rfl, hO2⟩
    ·intro ac done u W Sx hR
     have g : Gr w16 W := hR.g
     exact X.vl (X.move rfl (Sx.ev 6 (.slice oa S.length oc))) (hR.quiet hup (Gr.refl _) (by decide))
    ·intro ac done u W Sx hR
     have g : Gr w16 W := hR.g
     exact X.vl (X.move rfl (Sx.ev 9 (Vi k))) (hR.quiet hup (Gr.refl _) (by decide))
    ·intro ac done u W Sx hR
     have g : Gr w16 W := hR.g
     exact X.vl (Y.slL (i := k) rfl (Sx.ev 60 (.slice oa S.length oc)) (Sx.ev 61 (Vi k)) Try.underlying38 (Try.siz34 _) rfl (by omega) (by omega)) (hR.quiet hup (Gr.refl _) (by decide))
    ·intro ac done u W Sx hR
     have g : Gr w16 W := hR.g
     obtain ⟨b9, c9, e0, hB9⟩ := hR.gd (Sx.an 10 (by kernel_rfl)) Sx.nd
     obtain ⟨h1, h2⟩ := (hoO.gr g).tailS hkS
     refine X.law (X.w0 rfl) (fun K_ hK => wp_pushG Try.underlying38 Try.info34 rfl (by decide) rfl ((Sx.own 10 59 rfl).trans e0) (Sx.ev 62 (.slice (if oc = k then (oa : Option Addr) else Option.map (fun x : Addr => x.add (k * 1)) oa) (S.length - k) (oc - k))) hB9 h1 (by rw [List.length_drop, begs_len, Nat.mul_one]) h2 (all_drop (begs_all S) k) (by omega) (by decide) g.size (fun v2 W2 hO2 hon hat => hK v2 W2 (fun x hx => by cases hx) (hR.se (by decide) (Sx.an 4 (by kernel_rfl)) (Sx.an 10 (by kernel_rfl)) (Sx.no 15 (by kernel_rfl)) (OnlyG g hon (fun b e => (hB9.ge e).1)) ?_)))
     obtain ⟨a8, c8, rfl⟩ := hO2.form
     exact ⟨a8, c8, rfl, hO2⟩
    ·intro ac done u W Sx hR
     have g : Gr w16 W := hR.g
     exact X.valN (X.w0 rfl) rfl (X.assign rfl (Sx.own 14 63 rfl)) (hR.sf (by decide) (Sx.an 4 (by kernel_rfl)) (Sx.an 10 (by kernel_rfl)) (Sx.an 14 (by kernel_rfl)))
    rintro ac u w17 hs hd hl_ ho hR
    have g : Gr w16 w17 := hR.g
    obtain ⟨oa2, oc2, e0, hO2⟩ := hR.ge rfl
    have e1 := (hR.gf rfl).trans e0
    rw [show k + 1 + (S.length - k) = S.length + 1 by omega] at hO2 e1
    have e9 : (begsV S).take k ++ [.slice xr9.a xr9.xs.length xr9.c] ++ (begsV S).drop k = begsV S2 := by rw [hS2]; exact begs_ins1 S k (keyC p xr9.xs, xr9)
    rw [e9] at hO2
    clear hup e9 e0
    replace F : Fr ac 65 [(1, .slice (some pd9) E.length lc9), (2, Vp w.heap.size), (5, .slice ca2 (S.length + 1) cc2), (7, Vi i)] := X.fr hs hd hl_ _ (by kernel_rfl)
    replace F := F.add (ho 15 6 rfl) e1
    clear hs hd hl_ ho hR e1
    replace F : Fr ac 65 [(1, .slice (some pd9) E.length lc9), (2, Vp w.heap.size), (5, .slice ca2 (S.length + 1) cc2), (6, .slice oa2 (S.length + 1) oc2), (7, Vi i)] := F.sub _
    replace G := G.trans g
    replace hC := hC.gr g
    replace hO1 := hO1.thenGr g
    replace hpt := hpt.gr g
    replace hph := hph.gr g
    replace hpb := hpb.gr g
    replace hpl := hpl.gr g
    replace hLr := hLr.gr g
    replace hcO := hcO.gr g
    replace hoO := hoO.gr g
    replace pI9 := pI9.gr g
    clear g
    replace hoO := hO2.lower (Nat.le_trans hO1l hgr11)
    clear hO2
    refine X.blockN (X.thenN ?_)
    refine Y.lg F [(1, .slice (some pd9) E.length lc9), (2, Vp w.heap.size), (5, .slice ca2 (S.length + 1) cc2), (6, .slice oa2 (S.length + 1) oc2), (7, Vi ((i : Int) + 1))] (by
     refine Y.pv F (X.move rfl (F.ev 7 (Vi i))) fun ac F=>?_
     refine Y.pv F (X.binop rfl (F.ev 14 (Vi i)) (X.kc (Vi 1) rfl) (X.addI Try.underlying3 rfl (by omega) (by omega))) fun ac F=>?_
     refine Y.pv F (X.assign rfl (F.ev 15 (Vi ((i : Int) + 1)))) fun ac F=>?_
     exact Y.fin F) ?_;clear F ac;intro ac F
    refine ⟨_, ?_, S2, ca2, cc2, oa2, oc2, i + 1, rfl, hO1, by omega, by rw [hS2l]; exact hcO, by rw [hS2l]; exact hoO, hst2, hmS2, by omega, (by rw [hS2l]; exact F.sub _)⟩
    omega
   | true =>
    try rw [h15] at F
    have h15p : ((bndV p xr9.xs : Int) < y.1.2) := of_decide_eq_true h15
    have hlt9 : ltK (0, bndV p xr9.xs) y.1 = true := (lt_c hy0).trans h15
    have hpn := pos_lt (k := (0, bndV p xr9.xs)) (by omega) hy hlt9
    refine Y.condT (F.ev 34 (.bool true)) ?_
    refine Y.skip ?_
    refine X.thenN ?_
    refine Y.block ?_
    refine Y.lit (by kernel_rfl) ?_
    refine Y.pv3 F (X.move rfl (F.ev 9 (Vi k))) (fun _ F=>X.binop rfl (F.ev 35 (Vi k)) (X.kc (Vi 1) rfl) (X.subI Try.underlying3 rfl (by omega) (by omega))) (fun _ F=>X.assign rfl (F.ev 36 (Vi ((k : Int) - 1)))) ?_;clear F ac;intro ac F
    refine Y.nil ?_
    replace F : Fr ac 65 [(1, .slice (some pd9) E.length lc9), (2, Vp w.heap.size), (5, .slice (some ⟨g9, 0, none⟩) S.length cc), (6, .slice oa S.length oc), (7, Vi i), (8, Vi (bndV p xr9.xs)), (9, Vi ((k : Int) - 1))] := F.sub _
    refine X.blockN (X.thenN ?_)
    refine ⟨_, ?_, k - 1, rfl, hO2, by omega, hpp.trans hpn, (by rw [show ((k - 1 : Nat) : Int) = (k : Int) - 1 by omega]; exact F.sub _)⟩
    omega
end
section
open Go.RowKit

theorem all_mp (p : Pb) (ta ha ba la : Option Addr) (tc hc bc lc : Nat) (hp : PbOk p) (hsm : p.nt ≤ 5 ∧ p.nh ≤ 4) (w : World) (hP : PbAt w p ta ha ba la tc hc bc lc) :
    Calls Try.prog 68 #[.agg #[.slice ta p.nt tc, .slice ha p.nh hc, .slice ba p.nb bc, .slice la p.nl lc], .slice none 0 0] w fun e w' => ∃ v, e = .returned v ∧ (∃ a c E, v = .slice a (List.length E) c ∧ RrAt w' a E ∧ E.map BegE.xs = allP p ∧ E.length ≤ c ∧ E.length ≤ 1024) ∧ Gr w w' :=
  (all_any p ta ha ba la tc hc bc lc hp hsm p.nt [] none 0 w hP (by simp) HosOk.nil (Ints.nilZ _) (fun ad e => by cases e)).mono fun e w' ⟨v, E, he, hRw, hm, _, g⟩ => by
    obtain ⟨oa, oc, rfl⟩ := hRw.form
    refine ⟨_, he, ⟨oa, oc, E, rfl, hRw.rr, hm, hRw.o.le, ?_⟩, g⟩
    have h1 := congrArg List.length hm
    rw [List.length_map] at h1
    have h2 := allF_len (hope := hopeB p (tim p)) hsm.2 p.nt []
    have h3 := pow_le hsm.1
    omega
theorem srt_mp (p : Pb) (ta ha ba la : Option Addr) (tc hc bc lc : Nat) (lr : Option Addr) (lc9 : Nat) (E : List BegE) (hp : PbOk p) (w : World) (hP : PbAt w p ta ha ba la tc hc bc lc) (hr : RrAt w lr E) (hm : E.map BegE.xs = allP p) (hl : E.length ≤ 1024) :
    Calls Try.prog 67 #[.agg #[.slice ta p.nt tc, .slice ha p.nh hc, .slice ba p.nb bc, .slice la p.nl lc], .slice lr E.length lc9] w fun e w' => ∃ v, e = .returned v ∧ (∃ a c E, v = .slice a (List.length E) c ∧ RrAt w' a E ∧ E.map BegE.xs = sortedL p ∧ E.length ≤ c ∧ E.length ≤ 1024) ∧ Gr w w' :=
  (sorted_any p ta ha ba la tc hc bc lc lr lc9 E hp w hP hr (fun x hx => by
    have h1 := mem_allP (p := p) (x := x.xs) (by rw [← hm]; exact List.mem_map_of_mem hx)
    exact ⟨h1.1, h1.2.1⟩) hl).mono fun e w' ⟨oa, oc, S, he, hO, hst, hmS, g⟩ => by
    have hSl : S.length = E.length := by
      have h1 := congrArg List.length hst
      rw [strip_len, srtK_len, List.length_map] at h1; exact h1
    refine ⟨_, he, ⟨oa, oc, S.map (·.2), by rw [List.length_map], rr_own hO (fun y hy => ?_), by rw [strip_xs, hst, hm]; rfl, by rw [List.length_map]; exact hO.le, by rw [List.length_map]; omega⟩, g⟩
    obtain ⟨i, hi⟩ := List.getElem?_of_mem (hmS y hy).1
    obtain ⟨_, _, _, h3⟩ := hr i _ hi
    exact h3.gr g
end
end Go.Proofs.Ytodedneanlekdaa
