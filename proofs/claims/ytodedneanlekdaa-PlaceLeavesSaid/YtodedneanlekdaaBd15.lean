/- Several texts of this claim in one file. (1) Contracts: the reference's Allowed, Cost, Hopeless, Bound. (2) Contracts: with, all (reference). (3) Contracts: the reference's first, Best. (4) Contract: sorted. (5) Contracts: the reference's List, Count. (6) Contract: the reference's Repair. (7) Allowed plans are those of the list; one that does not use the host stays. Nothing of the program is proved here. (8) Contracts: ints, Copy, Same. (9) An easier problem: a bond less, larger hosts. Nothing of the program is proved here. (10) Leaves that cover all plans: no one begins with another, and together they have as many plans as there are. Nothing of the program is proved here. (11) Contracts: Equal, begins, plans, many. (12) Contract: slices.SortFunc of rows of numbers, by slices.Compare. (13) What Proves says of leaves, step by step. Nothing of the program is proved here. (14) The branches of a test meet again. Nothing of the program is proved here. -/
import Derived.Test.YtodedneanlekdaaBd14
import Derived.Test.YtodedneanlekdaaBd13
import Derived.Test.YtodedneanlekdaaShelf
import Derived.Test.YtodedneanlekdaaBd2
namespace Go.Proofs.Ytodedneanlekdaa
set_option linter.unusedSimpArgs false
set_option linter.unusedVariables false
section
open Go.RowKit

set_option maxRecDepth 100000 in
set_option maxHeartbeats 1000000 in
theorem begin_any (p : Pb) (ta ha ba la : Option Addr) (tc hc bc lc : Nat) (a : Option Addr) (c : Nat) (xs : List Int) (w : World) (hP : PbAt w p ta ha ba la tc hc bc lc) (hX : Ints w a xs.length xs) :
  Calls Try.prog 78 #[.agg #[.slice ta p.nt tc, .slice ha p.nh hc, .slice ba p.nb bc, .slice la p.nl lc], .slice a xs.length c] w fun e w' => e = .returned (Vi (begE p xs)) ∧ Gr w w' := by
 have G := Gr.refl w
 have hpt := hP.t
 have hph := hP.h
 have hpb := hP.b
 have hpl := hP.l
 have hplen := hP.len
 obtain ⟨hn1, hn2, hn3, hn4⟩ := hplen
 have hcp1 := hpt.cap
 have hcp2 := hph.cap
 have hcp3 := hpb.cap
 have hcp4 := hpl.cap
 have hxs := hX
 have hlt := hxs.lt
 refine Y.calls 31 Try.func78 rfl rfl ?_
 intro ac F0
 have F : Fr ac 31 [(0, .agg #[.slice ta p.nt tc, .slice ha p.nh hc, .slice ba p.nb bc, .slice la p.nl lc]), (1, .slice a xs.length c)] := F0.sub _
 clear F0
 refine Y.sl ?_
 have hgs3 : w.heap.size ≤ w.heap.size := G.size
 refine Y.pv F (X.box rfl (F.ev 0 (.agg #[.slice ta p.nt tc, .slice ha p.nh hc, .slice ba p.nb bc, .slice la p.nl lc])) X.bx) ?_;clear F ac;intro ac F
 have hgs5 : w.heap.size ≤ w.heap.size := G.size
 obtain ⟨w6, hw_, g, hb, hbl, hC2⟩ := Y.bxd (RCells.nil w) #[.slice ta p.nt tc, .slice ha p.nh hc, .slice ba p.nb bc, .slice la p.nl lc] 27;rw [hw_];clear hw_
 replace G := G.trans g
 have hC := hC2
 clear hC2
 replace hpt := hpt.gr g
 replace hph := hph.gr g
 replace hpb := hpb.gr g
 replace hpl := hpl.gr g
 replace hxs := hxs.gr g
 have hsz4 := hbl
 clear g hb hbl
 refine Y.pv F (X.assign rfl (X.kc (Vi 0) rfl)) ?_;clear F ac;intro ac F
 refine Y.nt F [(1, .slice a xs.length c), (2, Vp w.heap.size)] ?_;clear F ac;intro ac F
 refine Y.sl ?_
 refine Y.pv F (X.load rfl (F.ev 2 (Vp w.heap.size)) (X.ldN (Try.agg27 _) (Try.siz27 _) (Y.atz (⟨w.heap.size, 0, none⟩) (Y.AtFrom.cons (hC.at 0 rfl) (Y.AtFrom.cons (hC.at 1 rfl) (Y.AtFrom.cons (hC.at 2 rfl) (Y.AtFrom.cons (hC.at 3 rfl) (Y.AtFrom.nil _ _ _)))))))) ?_;clear F ac;intro ac F
 refine Y.pc F 19 (X.a1 (F.ev 7 (.agg #[.slice ta p.nt tc, .slice ha p.nh hc, .slice ba p.nb bc, .slice la p.nl lc]))) Try.func19 (check2_any p ta ha ba la tc hc bc lc w6 (hP.gr G)) ?_
 clear F ac
 rintro e w7 ⟨rfl, g⟩
 refine ⟨_, rfl, ?_⟩
 intro ac F
 replace G := G.trans g
 replace hC := hC.gr g
 replace hpt := hpt.gr g
 replace hph := hph.gr g
 replace hpb := hpb.gr g
 replace hpl := hpl.gr g
 replace hxs := hxs.gr g
 clear g
 refine Y.pv F (X.assign rfl (F.ev 8 (Vi (chkE p)))) ?_;clear F ac;intro ac F
 refine Y.nt F [(1, .slice a xs.length c), (2, Vp w.heap.size), (5, Vi (chkE p))] ?_;clear F ac;intro ac F
 refine Y.seq ?_
 refine Y.sg F [(1, .slice a xs.length c), (2, Vp w.heap.size), (5, Vi (chkE p)), (10, .bool ((chkE p : Int) != 0))] (Y.pv F (X.move rfl (F.ev 5 (Vi (chkE p)))) fun ac F=>Y.pv F (X.binop rfl (F.ev 9 (Vi (chkE p))) (X.kc (Vi 0) rfl) (X.neqI Try.underlying31 rfl)) fun ac F=>Y.fin F) ?_;clear F ac;intro ac F
 cases h8 : ((chkE p : Int) != 0) with
 | false =>
  try rw [h8] at F
  have h8p : (chkE p : Int) = 0 := by simpa using h8
  refine Y.condF (F.ev 10 (.bool false)) ?_
  refine Y.skip ?_
  refine X.thenN ?_
  refine Y.seq ?_
  refine Y.sg F [(1, .slice a xs.length c), (2, Vp w.heap.size), (17, .bool (decide ((p.nt : Int) < xs.length)))] (by
   refine Y.pv F (X.move rfl (F.ev 1 (.slice a xs.length c))) fun ac F=>?_
   refine Y.pv F (X.len1 Try.underlying34 rfl (F.ev 12 (.slice a xs.length c))) fun ac F=>?_
   refine Y.pv F (X.field rfl (F.ev 2 (Vp w.heap.size)) (X.fld Try.underlying27 rfl (Try.siz22 _) rfl rfl)) fun ac F=>?_
   refine Y.pv F (X.load rfl (F.ev 14 (Vp w.heap.size)) (X.ld1 (Try.agg22 _) (hC.at 0 rfl))) fun ac F=>?_
   refine Y.pv F (X.len1 Try.underlying22 rfl (F.ev 15 (.slice ta p.nt tc))) fun ac F=>?_
   refine Y.pv F (X.binop rfl (F.ev 13 (Vi xs.length)) (F.ev 16 (Vi p.nt)) (X.gtrI Try.underlying3 rfl)) fun ac F=>?_
   exact Y.fin F) ?_;clear F ac;intro ac F
  cases h9 : decide ((p.nt : Int) < xs.length) with
  | false =>
   try rw [h9] at F
   have h9p : ¬ ((p.nt : Int) < xs.length) := of_decide_eq_false h9
   refine Y.condF (F.ev 17 (.bool false)) ?_
   refine Y.skip ?_
   refine X.thenN ?_
   refine Y.seq ?_
   refine Y.sg F [(1, .slice a xs.length c), (2, Vp w.heap.size), (6, Vi 0)] (Y.pv F (X.assign rfl (X.kc (Vi 0) rfl)) fun ac F=>Y.fin F) ?_;clear F ac;intro ac F
   refine Y.block ?_
   refine Y.loop (fun me_ ac wr => ∃ (i : Nat), me_ = xs.length - i ∧ Only (fun b => False) w7 wr ∧ i ≤ xs.length ∧ allN (fun i => isH p (xg xs i)) i = true ∧ Fr ac 31 [(1, .slice a xs.length c), (2, Vp w.heap.size), (6, Vi i)]) _ ⟨0, rfl, Only.refl _ _, Nat.zero_le _, rfl, F.sub _⟩ ?_
   have hptB1 := hpt
   have hphB1 := hph
   have hpbB1 := hpb
   have hplB1 := hpl
   have hxsB1 := hxs
   have GB1 := G
   have hCB1 := hC
   clear F ac
   intro me_ ac w10 hI
   obtain ⟨i, rfl, hO1, hi0, hok, F⟩ := hI
   replace G := GB1.trans (hO1.gr (fun _ _ h => h))
   replace hpt := (hP.t).gr G
   replace hph := (hP.h).gr G
   replace hpb := (hP.b).gr G
   replace hpl := (hP.l).gr G
   replace hxs := (hX).gr G
   replace hC := (RCells.cons (hO1.cell (hCB1.at 0 rfl) (fun h => h)) (RCells.cons (hO1.cell (hCB1.at 1 rfl) (fun h => h)) (RCells.cons (hO1.cell (hCB1.at 2 rfl) (fun h => h)) (RCells.cons (hO1.cell (hCB1.at 3 rfl) (fun h => h)) (RCells.nil _)))))
   refine Y.seq ?_
   refine Y.sg F [(1, .slice a xs.length c), (2, Vp w.heap.size), (6, Vi i), (21, .bool (decide ((i : Int) < xs.length)))] (Y.pv F (X.move rfl (F.ev 6 (Vi i))) fun ac F=>Y.pv F (X.move rfl (F.ev 1 (.slice a xs.length c))) fun ac F=>Y.pv F (X.len1 Try.underlying34 rfl (F.ev 19 (.slice a xs.length c))) fun ac F=>Y.pv F (X.binop rfl (F.ev 18 (Vi i)) (F.ev 20 (Vi xs.length)) (X.lssI Try.underlying3 rfl)) fun ac F=>Y.fin F) ?_;clear F ac;intro ac F
   cases h11 : decide ((i : Int) < xs.length) with
   | false =>
    try rw [h11] at F
    have h11p : ¬ ((i : Int) < xs.length) := of_decide_eq_false h11
    obtain rfl : i = xs.length := by omega
    refine Y.condF (F.ev 21 (.bool false)) ?_
    refine Y.exit ?_
    refine X.thenX (X.thenX (X.blockX (X.thenN ?_)))
    refine Y.sg F [(4, Vi 0)] (Y.pv F (X.assign rfl (X.kc (Vi 0) rfl)) fun ac F=>Y.fin F) ?_;clear F ac;intro ac F
    refine Y.ret ?_
    exact Y.ret0 (v := Vi 0) F (Y.r1 F) ⟨by rw [beg_3 (by omega) (by omega) hok], G⟩
   | true =>
    try rw [h11] at F
    have h11p : ((i : Int) < xs.length) := of_decide_eq_true h11
    have hi : i < xs.length := by omega
    refine Y.condT (F.ev 21 (.bool true)) ?_
    refine Y.skip ?_
    refine X.thenN ?_
    refine Y.seq ?_
    refine Y.block ?_
    refine Y.seq ?_
    obtain ⟨pd12, pe12, -, pc12⟩ := hxs.at (j := i) (by omega)
    subst pe12
    replace hC := hC.append (show RCells w10 ([(pd12.add i, Vi (xs[i]?.getD 0))]) from (RCells.cons pc12 (RCells.nil _)))
    clear pc12
    refine Y.region F [some (.agg #[.slice ta p.nt tc, .slice ha p.nh hc, .slice ba p.nb bc, .slice la p.nl lc]), some (.slice (some pd12) xs.length c), some (Vi i), some (.pointer (some (pd12.add i))), some (Vi (xs[i]?.getD 0)), some (.bool (isH p (xs[i]?.getD 0))), some (.bool (!(isH p (xs[i]?.getD 0))))] [] rfl ⟨by kernel_rfl, of_decide_eq_true (by kernel_rfl), by kernel_rfl, by kernel_rfl, by kernel_rfl⟩ ⟨?_, ?_, ?_, ?_, ?_, ?_, ?_, trivial⟩ ?_
    ·intro ac done u W Sx hR
     have g : Gr w10 W := hR.1
     exact X.vl (X.load rfl (Sx.ev 2 (Vp w.heap.size)) (X.ldN (Try.agg27 _) (Try.siz27 _) (Y.atz (⟨w.heap.size, 0, none⟩) (Y.AtFrom.cons ((hC.gr g).at 0 rfl) (Y.AtFrom.cons ((hC.gr g).at 1 rfl) (Y.AtFrom.cons ((hC.gr g).at 2 rfl) (Y.AtFrom.cons ((hC.gr g).at 3 rfl) (Y.AtFrom.nil _ _ _)))))))) hR.st0
    ·intro ac done u W Sx hR
     exact X.vl (X.move rfl (Sx.ev 1 (.slice (some pd12) xs.length c))) hR.st0
    ·intro ac done u W Sx hR
     exact X.vl (X.move rfl (Sx.ev 6 (Vi i))) hR.st0
    ·intro ac done u W Sx hR
     exact X.val (X.w0 rfl) rfl (X.index rfl (Sx.ev 25 (.slice (some pd12) xs.length c)) (Sx.ev 26 (Vi i)) (X.idx (k := i) Try.underlying34 (Try.siz3 _) (by omega) (by omega) (by rw [Nat.mul_one]))) hR.st0
    ·intro ac done u W Sx hR
     have g : Gr w10 W := hR.1
     exact X.vl (X.load rfl (Sx.ev 27 (.pointer (some (pd12.add i)))) (X.ld1 (Try.agg3 _) ((hC.gr g).at 4 rfl))) hR.st0
    ·intro ac done u W Sx hR
     refine X.call (X.w0 rfl) (X.enter (F := 62) rfl (X.kc (.func (.func 62) #[] #[]) rfl) (X.a2 (Sx.ev 24 (.agg #[.slice ta p.nt tc, .slice ha p.nh hc, .slice ba p.nb bc, .slice la p.nl lc])) (Sx.ev 28 (Vi (xs[i]?.getD 0)))) (enters_of Try.func62 (by kernel_rfl) rfl _)) (isHost_any p ta ha ba la tc hc bc lc (xs[i]?.getD 0) W) ?_
     rintro e W2 ⟨rfl, g2⟩
     exact ⟨_, rfl, X.kn rfl, hR.step g2 rfl⟩
    ·intro ac done u W Sx hR
     exact X.vl (X.notB rfl (Sx.ev 29 (.bool (isH p (xs[i]?.getD 0)))) rfl) hR.st0
    intro ac u w13 hs hd hl ho hR
    have g : Gr w10 w13 := hR.1
    replace F : Fr ac 31 [(1, .slice (some pd12) xs.length c), (2, Vp w.heap.size), (6, Vi i), (30, .bool (!(isH p (xs[i]?.getD 0))))] := X.fr hs hd hl _ (by kernel_rfl)
    clear hs hd hl ho hR
    replace G := G.trans g
    replace hC := hC.gr g
    replace hO1 := hO1.thenGr g
    replace hpt := hpt.gr g
    replace hph := hph.gr g
    replace hpb := hpb.gr g
    replace hpl := hpl.gr g
    replace hxs := hxs.gr g
    clear g
    refine X.thenN ?_
    cases h14 : isH p (xs[i]?.getD 0) with
    | false =>
     try rw [h14] at F
     refine Y.condT (F.ev 30 (.bool true)) ?_
     refine Y.sg F [(4, Vi 33)] (Y.pv F (X.assign rfl (X.kc (Vi 33) rfl)) fun ac F=>Y.fin F) ?_;clear F ac;intro ac F
     refine Y.ret ?_
     refine X.blockR (X.thenR (X.thenR (X.blockR (X.thenR ?_))))
     exact Y.ret0 (v := Vi 33) F (Y.r1 F) ⟨by rw [beg_2 (by omega) (.inr (allN_false hi h14))], G⟩
    | true =>
     try rw [h14] at F
     refine Y.condF (F.ev 30 (.bool false)) ?_
     refine Y.skip ?_
     refine X.blockN (X.thenN ?_)
     refine Y.lg F [(1, .slice (some pd12) xs.length c), (2, Vp w.heap.size), (6, Vi ((i : Int) + 1))] (by
      refine Y.pv F (X.move rfl (F.ev 6 (Vi i))) fun ac F=>?_
      refine Y.pv F (X.binop rfl (F.ev 22 (Vi i)) (X.kc (Vi 1) rfl) (X.addI Try.underlying3 rfl (by omega) (by omega))) fun ac F=>?_
      refine Y.pv F (X.assign rfl (F.ev 23 (Vi ((i : Int) + 1)))) fun ac F=>?_
      exact Y.fin F) ?_;clear F ac;intro ac F
     refine ⟨_, ?_, i + 1, rfl, hO1, by omega, allN_succ hok h14, F.sub _⟩
     omega
  | true =>
   try rw [h9] at F
   have h9p : ((p.nt : Int) < xs.length) := of_decide_eq_true h9
   refine Y.condT (F.ev 17 (.bool true)) ?_
   refine Y.sg F [(4, Vi 33)] (Y.pv F (X.assign rfl (X.kc (Vi 33) rfl)) fun ac F=>Y.fin F) ?_;clear F ac;intro ac F
   refine Y.ret ?_
   refine X.thenR ?_
   exact Y.ret0 (v := Vi 33) F (Y.r1 F) ⟨by rw [beg_2 (by omega) (.inl (by omega))], G⟩
 | true =>
  try rw [h8] at F
  have h8p : ¬ (chkE p : Int) = 0 := by simpa using h8
  refine Y.condT (F.ev 10 (.bool true)) ?_
  refine Y.sg F [(4, Vi (chkE p))] (Y.pv F (X.move rfl (F.ev 5 (Vi (chkE p)))) fun ac F=>Y.pv F (X.assign rfl (F.ev 11 (Vi (chkE p)))) fun ac F=>Y.fin F) ?_;clear F ac;intro ac F
  refine Y.ret ?_
  refine X.thenR ?_
  exact Y.ret0 (v := Vi (chkE p)) F (Y.r1 F) ⟨by rw [show begE p xs = chkE p from if_pos (by omega)], G⟩
end
section
open Go.RowKit
end
section
open Go.RowKit
end
section
open Go.RowKit
end
section
open Go.RowKit
end
section
open Go.RowKit

section
variable {E : List BegE} {plan : List Int} {host mv : Int} {i bn bc : Nat} {ba : Option Addr} {x : BegE}
end
end
section
set_option linter.unusedVariables false
open Go.RowKit
end
section
open Go.RowKit

/-- a problem in memory of the call's own -/
structure PbOwn (w : World) (B : Nat) (p : Pb) (ta ha ba la : Option Addr) (tc hc bc lc : Nat) : Prop where
  t : OwnR w B 74 4 (.slice ta p.nt tc) p.nt (tbL (tvV p) p.nt 4)
  h : OwnR w B 53 6 (.slice ha p.nh hc) p.nh (tbL (hvV p) p.nh 6)
  b : OwnR w B 65 3 (.slice ba p.nb bc) p.nb (tbL (bvV p) p.nb 3)
  l : OwnR w B 84 3 (.slice la p.nl lc) p.nl (tbL (lvV p) p.nl 3)
  s1 : ∀ i, i < p.nt → (p.tn i).size ≤ 9223372036854775807
  s2 : ∀ i, i < p.nh → (p.hn i).size ≤ 9223372036854775807
def SmlP (p : Pb) : Prop := p.nt ≤ 20 ∧ p.nh ≤ 20 ∧ p.nb ≤ 40 ∧ p.nl ≤ 40
theorem PbOwn.at {w : World} {B : Nat} {p : Pb} {ta ha ba la : Option Addr} {tc hc bc lc : Nat} (h : PbOwn w B p ta ha ba la tc hc bc lc) (hz : SmlP p) : PbAt w p ta ha ba la tc hc bc lc := by
  obtain ⟨h1, h2, h3, h4⟩ := hz
  exact ⟨h.t.tb (by omega), h.h.tb (by omega), h.b.tb (by omega), h.l.tb (by omega), h.s1, h.s2⟩
theorem PbOwn.gr {w w' : World} {B : Nat} {p : Pb} {ta ha ba la : Option Addr} {tc hc bc lc : Nat} (h : PbOwn w B p ta ha ba la tc hc bc lc) (g : Gr w w') : PbOwn w' B p ta ha ba la tc hc bc lc := ⟨h.t.gr g, h.h.gr g, h.b.gr g, h.l.gr g, h.s1, h.s2⟩
theorem OwnR.after {w w' : World} {b B e k n c : Nat} {a : Option Addr} {xs : List Value} (h : OwnR w B e k (.slice a n c) n xs) (g : Only (fun x => x = b) w w') (hb : b < B) : OwnR w' B e k (.slice a n c) n xs :=
  h.only g (fun x hx e => by have h1 := (h.ge hx).1; have h2 : x = b := e; omega)
set_option maxRecDepth 100000 in
set_option maxHeartbeats 400000 in
theorem ints_any (a : Option Addr) (c : Nat) (xs : List Int) (w : World) (hX : Ints w a xs.length xs) (hl : xs.length ≤ 100000) :
  Calls Try.prog 33 #[.slice a xs.length c] w fun e w' => ∃ a' c', e = .returned (.slice a' xs.length c') ∧ OwnR w' w.heap.size 3 1 (.slice a' xs.length c') xs.length (xs.map (Value.int .i64)) ∧ Gr w w' := by
 have G := Gr.refl w
 have hxs := hX
 refine Y.calls 6 Try.func33 rfl rfl ?_
 intro ac F0
 have F : Fr ac 6 [(0, .slice a xs.length c)] := F0.sub _
 clear F0
 refine Y.sg F [(0, .slice a xs.length c)] (Y.pv F (X.assign rfl (X.kc (.slice none 0 0) rfl)) fun ac F=>Y.fin F) ?_;clear F ac;intro ac F
 refine Y.sl ?_
 refine Y.pv F (X.bs rfl X.bs0 (Try.bs34_0 _)) ?_;clear F ac;intro ac F
 have g := Gr.alloc w (.cells #[] 3)
 have hO := ownR_new (k := 1) (heap_alloc_new w (.cells #[] 3)) (Nat.le_refl _)
 generalize w.alloc (.cells #[] 3) = w3 at *
 replace G := G.trans g
 replace hxs := hxs.gr g
 clear g
 refine Y.pv F (X.move rfl (F.ev 0 (.slice a xs.length c))) ?_;clear F ac;intro ac F
 obtain ⟨ra, rc, w4, hrun, hO2, g⟩ := run_copyN (P := Try.prog) (ts := 34) Try.underlying34 Try.info3 rfl (by decide) hO (ints_tb hxs).2 (by rw [List.length_map, Nat.mul_one]) (ints_tb hxs).1 (ints_all xs) (by omega) (by decide) G.size
 refine Y.pv F (Y.apz rfl (F.ev 3 (.slice (some ⟨w.heap.size, 0, none⟩) 0 0)) (F.ev 4 (.slice a xs.length c)) hrun) ?_
 clear F ac hrun
 intro ac F
 replace G := G.trans g
 replace hxs := hxs.gr g
 refine Y.pv F (X.assign rfl (F.ev 5 (.slice ra xs.length rc))) ?_;clear F ac;intro ac F
 refine Y.nt F [(2, .slice ra xs.length rc)] ?_;clear F ac;intro ac F
 refine Y.ret ?_
 exact Y.ret0 (v := .slice ra xs.length rc) F (Y.r1 F) ⟨ra, rc, rfl, hO2, G⟩
set_option maxRecDepth 100000 in
set_option maxHeartbeats 2000000 in
theorem copy_any (p : Pb) (ta ha ba la : Option Addr) (tc hc bc lc : Nat) (w : World) (hP : PbAt w p ta ha ba la tc hc bc lc) (hz : SmlP p) :
  Calls Try.prog 17 #[.agg #[.slice ta p.nt tc, .slice ha p.nh hc, .slice ba p.nb bc, .slice la p.nl lc]] w fun e w' => ∃ ta ha ba la tc hc bc lc, e = .returned (.agg #[.slice ta p.nt tc, .slice ha p.nh hc, .slice ba p.nb bc, .slice la p.nl lc]) ∧ PbOwn w' w.heap.size p ta ha ba la tc hc bc lc ∧ Gr w w' := by
 have G := Gr.refl w
 have hpt := hP.t
 have hph := hP.h
 have hpb := hP.b
 have hpl := hP.l
 have hplen := hP.len
 obtain ⟨hn1, hn2, hn3, hn4⟩ := hplen
 have hcp1 := hpt.cap
 have hcp2 := hph.cap
 have hcp3 := hpb.cap
 have hcp4 := hpl.cap
 obtain ⟨hz1, hz2, hz3, hz4⟩ := hz
 refine Y.calls 20 Try.func17 rfl rfl ?_
 intro ac F0
 have F : Fr ac 20 [(0, .agg #[.slice ta p.nt tc, .slice ha p.nh hc, .slice ba p.nb bc, .slice la p.nl lc])] := F0.sub _
 clear F0
 refine Y.sl ?_
 have hgs3 : w.heap.size ≤ w.heap.size := G.size
 refine Y.pv F (X.box rfl (F.ev 0 (.agg #[.slice ta p.nt tc, .slice ha p.nh hc, .slice ba p.nb bc, .slice la p.nl lc])) X.bx) ?_;clear F ac;intro ac F
 have hgs5 : w.heap.size ≤ w.heap.size := G.size
 obtain ⟨w6, hw_, g, hb, hbl, hC2⟩ := Y.bxd (RCells.nil w) #[.slice ta p.nt tc, .slice ha p.nh hc, .slice ba p.nb bc, .slice la p.nl lc] 27;rw [hw_];clear hw_
 replace G := G.trans g
 have hC := hC2
 clear hC2
 replace hpt := hpt.gr g
 replace hph := hph.gr g
 replace hpb := hpb.gr g
 replace hpl := hpl.gr g
 have hsz4 := hbl
 clear g hb hbl
 refine Y.pv F (Y.al rfl (Try.new27 _)) ?_;clear F ac;intro ac F
 have g := Gr.alloc w6 (.cells #[.slice none 0 0, .slice none 0 0, .slice none 0 0, .slice none 0 0] 27)
 have hb := heap_alloc_new w6 (.cells #[.slice none 0 0, .slice none 0 0, .slice none 0 0, .slice none 0 0] 27)
 have hszw7 : w6.heap.size < (w6.alloc (.cells #[.slice none 0 0, .slice none 0 0, .slice none 0 0, .slice none 0 0] 27)).heap.size := by simp
 have hgsw7 : w.heap.size ≤ w6.heap.size := G.size
 generalize w6.alloc (.cells #[.slice none 0 0, .slice none 0 0, .slice none 0 0, .slice none 0 0] 27) = w7 at *
 replace G := G.trans g
 replace hC := hC.gr g
 replace hpt := hpt.gr g
 replace hph := hph.gr g
 replace hpb := hpb.gr g
 replace hpl := hpl.gr g
 have hVw7 : OwnP w7 w6.heap.size 4 (VL [.slice none 0 0, .slice none 0 0, .slice none 0 0, .slice none 0 0]) := ownP_bx (vs := [.slice none 0 0, .slice none 0 0, .slice none 0 0, .slice none 0 0]) hb
 clear g hb
 refine Y.nt F [(1, Vp w.heap.size), (2, Vp w6.heap.size)] ?_;clear F ac;intro ac F
 refine Y.seq ?_
 have hgL : w.heap.size ≤ w7.heap.size := G.size
 have hbB := hVw7.lt
 have hbw : w.heap.size ≤ w6.heap.size := by first | exact Nat.le_refl _ | omega
 obtain ⟨TT, hTT⟩ : ∃ T : (Nat → Value) → World → Prop, T = fun _ W => ∃ t0 c0 t1 c1 t2 c2 t3 c3, OwnP W w6.heap.size 4 (VL [.slice t0 p.nt c0, .slice t1 p.nh c1, .slice t2 p.nb c2, .slice t3 p.nl c3]) ∧ Only (fun x => x = w6.heap.size) w7 W ∧ OwnR W w7.heap.size 74 4 (.slice t0 p.nt c0) p.nt (tbL (tvV p) p.nt 4) ∧ OwnR W w7.heap.size 53 6 (.slice t1 p.nh c1) p.nh (tbL (hvV p) p.nh 6) ∧ OwnR W w7.heap.size 65 3 (.slice t2 p.nb c2) p.nb (tbL (bvV p) p.nb 3) ∧ OwnR W w7.heap.size 84 3 (.slice t3 p.nl c3) p.nl (tbL (lvV p) p.nl 3) := ⟨_, rfl⟩
 refine Y.regionS F [none, some (Vp w.heap.size), some (.slice ta p.nt tc), none, none, some (.pointer (some ⟨w.heap.size, 1, none⟩)), some (.slice ha p.nh hc), none, none, some (.pointer (some ⟨w.heap.size, 2, none⟩)), some (.slice ba p.nb bc), none, none, some (.pointer (some ⟨w.heap.size, 3, none⟩)), some (.slice la p.nl lc), none, none, none] [(0, Y.MP.row0 w7.heap.size 74 4), (3, Y.MP.row w7.heap.size 74 4 p.nt (tbL (tvV p) p.nt 4)), (4, Y.MP.row0 w7.heap.size 53 6), (7, Y.MP.row w7.heap.size 53 6 p.nh (tbL (hvV p) p.nh 6)), (8, Y.MP.row0 w7.heap.size 65 3), (11, Y.MP.row w7.heap.size 65 3 p.nb (tbL (bvV p) p.nb 3)), (12, Y.MP.row0 w7.heap.size 84 3), (15, Y.MP.row w7.heap.size 84 3 p.nl (tbL (lvV p) p.nl 3)), (16, Y.MP.pbv w7.heap.size p)] 17 TT rfl ⟨by kernel_rfl, of_decide_eq_true (by kernel_rfl), by kernel_rfl, by kernel_rfl, by kernel_rfl⟩ (of_decide_eq_true (by kernel_rfl)) ⟨?_, ?_, ?_, ?_, ?_, ?_, ?_, ?_, ?_, ?_, ?_, ?_, ?_, ?_, ?_, ?_, ?_, ?_, trivial⟩ ?_
 ·intro ac done u W Sx hT
  have hs := Sx.no 17 (by kernel_rfl)
  have hR := hT.1 hs
  have g : Gr w7 W := hR.1
  exact X.valN (X.w0 rfl) rfl (X.bs rfl X.bs0 (Try.bs22_0 _)) (Y.RT.of hs rfl (hR.new (q := Y.MP.row0 w7.heap.size 74 4) (Gr.alloc _ _) rfl ⟨_, rfl, ownR_new (heap_alloc_new _ _) g.size⟩))
 ·intro ac done u W Sx hT
  have hs := Sx.no 17 (by kernel_rfl)
  have hR := hT.1 hs
  have g : Gr w7 W := hR.1
  exact X.vl (X.field rfl (Sx.ev 1 (Vp w.heap.size)) (X.fld Try.underlying27 rfl (Try.siz22 _) rfl rfl)) (Y.RT.of hs rfl hR.st0)
 ·intro ac done u W Sx hT
  have hs := Sx.no 17 (by kernel_rfl)
  have hR := hT.1 hs
  have g : Gr w7 W := hR.1
  exact X.vl (X.load rfl (Sx.ev 4 (Vp w.heap.size)) (X.ld1 (Try.agg22 _) ((hC.gr g).at 0 rfl))) (Y.RT.of hs rfl hR.st0)
 ·intro ac done u W Sx hT
  have hs := Sx.no 17 (by kernel_rfl)
  have hR := hT.1 hs
  have g : Gr w7 W := hR.1
  obtain ⟨ra0, e0, hI0⟩ := hR.get (i := 0) (Y.MP.row0 w7.heap.size 74 4) rfl (Sx.an 0 (by kernel_rfl))
  obtain ⟨a9, c9, W2, hrun, hO2, g2⟩ := run_copyN (P := Try.prog) (ts := 22) Try.underlying22 Try.info74 rfl (by decide) hI0 (hpt.gr g).none0 tbL_len ((hpt.gr g).src (by decide)) (tv_one p _) (by omega) (by decide) g.size
  exact X.valN (X.w0 rfl) rfl (Y.apz rfl ((Sx.own 0 3 rfl).trans e0) (Sx.ev 5 (.slice ta p.nt tc)) hrun) (Y.RT.of hs rfl (hR.new (q := Y.MP.row w7.heap.size 74 4 p.nt (tbL (tvV p) p.nt 4)) g2 rfl ⟨_, _, rfl, hO2⟩))
 ·intro ac done u W Sx hT
  have hs := Sx.no 17 (by kernel_rfl)
  have hR := hT.1 hs
  have g : Gr w7 W := hR.1
  exact X.valN (X.w0 rfl) rfl (X.bs rfl X.bs0 (Try.bs23_0 _)) (Y.RT.of hs rfl (hR.new (q := Y.MP.row0 w7.heap.size 53 6) (Gr.alloc _ _) rfl ⟨_, rfl, ownR_new (heap_alloc_new _ _) g.size⟩))
 ·intro ac done u W Sx hT
  have hs := Sx.no 17 (by kernel_rfl)
  have hR := hT.1 hs
  have g : Gr w7 W := hR.1
  exact X.vl (X.field rfl (Sx.ev 1 (Vp w.heap.size)) (X.fld Try.underlying27 rfl (Try.siz23 _) rfl rfl)) (Y.RT.of hs rfl hR.st0)
 ·intro ac done u W Sx hT
  have hs := Sx.no 17 (by kernel_rfl)
  have hR := hT.1 hs
  have g : Gr w7 W := hR.1
  exact X.vl (X.load rfl (Sx.ev 8 (.pointer (some ⟨w.heap.size, 1, none⟩))) (X.ld1 (Try.agg23 _) ((hC.gr g).at 1 rfl))) (Y.RT.of hs rfl hR.st0)
 ·intro ac done u W Sx hT
  have hs := Sx.no 17 (by kernel_rfl)
  have hR := hT.1 hs
  have g : Gr w7 W := hR.1
  obtain ⟨ra4, e4, hI4⟩ := hR.get (i := 4) (Y.MP.row0 w7.heap.size 53 6) rfl (Sx.an 4 (by kernel_rfl))
  obtain ⟨a9, c9, W2, hrun, hO2, g2⟩ := run_copyN (P := Try.prog) (ts := 23) Try.underlying23 Try.info53 rfl (by decide) hI4 (hph.gr g).none0 tbL_len ((hph.gr g).src (by decide)) (hv_one p _) (by omega) (by decide) g.size
  exact X.valN (X.w0 rfl) rfl (Y.apz rfl ((Sx.own 4 7 rfl).trans e4) (Sx.ev 9 (.slice ha p.nh hc)) hrun) (Y.RT.of hs rfl (hR.new (q := Y.MP.row w7.heap.size 53 6 p.nh (tbL (hvV p) p.nh 6)) g2 rfl ⟨_, _, rfl, hO2⟩))
 ·intro ac done u W Sx hT
  have hs := Sx.no 17 (by kernel_rfl)
  have hR := hT.1 hs
  have g : Gr w7 W := hR.1
  exact X.valN (X.w0 rfl) rfl (X.bs rfl X.bs0 (Try.bs24_0 _)) (Y.RT.of hs rfl (hR.new (q := Y.MP.row0 w7.heap.size 65 3) (Gr.alloc _ _) rfl ⟨_, rfl, ownR_new (heap_alloc_new _ _) g.size⟩))
 ·intro ac done u W Sx hT
  have hs := Sx.no 17 (by kernel_rfl)
  have hR := hT.1 hs
  have g : Gr w7 W := hR.1
  exact X.vl (X.field rfl (Sx.ev 1 (Vp w.heap.size)) (X.fld Try.underlying27 rfl (Try.siz24 _) rfl rfl)) (Y.RT.of hs rfl hR.st0)
 ·intro ac done u W Sx hT
  have hs := Sx.no 17 (by kernel_rfl)
  have hR := hT.1 hs
  have g : Gr w7 W := hR.1
  exact X.vl (X.load rfl (Sx.ev 12 (.pointer (some ⟨w.heap.size, 2, none⟩))) (X.ld1 (Try.agg24 _) ((hC.gr g).at 2 rfl))) (Y.RT.of hs rfl hR.st0)
 ·intro ac done u W Sx hT
  have hs := Sx.no 17 (by kernel_rfl)
  have hR := hT.1 hs
  have g : Gr w7 W := hR.1
  obtain ⟨ra8, e8, hI8⟩ := hR.get (i := 8) (Y.MP.row0 w7.heap.size 65 3) rfl (Sx.an 8 (by kernel_rfl))
  obtain ⟨a9, c9, W2, hrun, hO2, g2⟩ := run_copyN (P := Try.prog) (ts := 24) Try.underlying24 Try.info65 rfl (by decide) hI8 (hpb.gr g).none0 tbL_len ((hpb.gr g).src (by decide)) (bv_one p _) (by omega) (by decide) g.size
  exact X.valN (X.w0 rfl) rfl (Y.apz rfl ((Sx.own 8 11 rfl).trans e8) (Sx.ev 13 (.slice ba p.nb bc)) hrun) (Y.RT.of hs rfl (hR.new (q := Y.MP.row w7.heap.size 65 3 p.nb (tbL (bvV p) p.nb 3)) g2 rfl ⟨_, _, rfl, hO2⟩))
 ·intro ac done u W Sx hT
  have hs := Sx.no 17 (by kernel_rfl)
  have hR := hT.1 hs
  have g : Gr w7 W := hR.1
  exact X.valN (X.w0 rfl) rfl (X.bs rfl X.bs0 (Try.bs25_0 _)) (Y.RT.of hs rfl (hR.new (q := Y.MP.row0 w7.heap.size 84 3) (Gr.alloc _ _) rfl ⟨_, rfl, ownR_new (heap_alloc_new _ _) g.size⟩))
 ·intro ac done u W Sx hT
  have hs := Sx.no 17 (by kernel_rfl)
  have hR := hT.1 hs
  have g : Gr w7 W := hR.1
  exact X.vl (X.field rfl (Sx.ev 1 (Vp w.heap.size)) (X.fld Try.underlying27 rfl (Try.siz25 _) rfl rfl)) (Y.RT.of hs rfl hR.st0)
 ·intro ac done u W Sx hT
  have hs := Sx.no 17 (by kernel_rfl)
  have hR := hT.1 hs
  have g : Gr w7 W := hR.1
  exact X.vl (X.load rfl (Sx.ev 16 (.pointer (some ⟨w.heap.size, 3, none⟩))) (X.ld1 (Try.agg25 _) ((hC.gr g).at 3 rfl))) (Y.RT.of hs rfl hR.st0)
 ·intro ac done u W Sx hT
  have hs := Sx.no 17 (by kernel_rfl)
  have hR := hT.1 hs
  have g : Gr w7 W := hR.1
  obtain ⟨ra12, e12, hI12⟩ := hR.get (i := 12) (Y.MP.row0 w7.heap.size 84 3) rfl (Sx.an 12 (by kernel_rfl))
  obtain ⟨a9, c9, W2, hrun, hO2, g2⟩ := run_copyN (P := Try.prog) (ts := 25) Try.underlying25 Try.info84 rfl (by decide) hI12 (hpl.gr g).none0 tbL_len ((hpl.gr g).src (by decide)) (lv_one p _) (by omega) (by decide) g.size
  exact X.valN (X.w0 rfl) rfl (Y.apz rfl ((Sx.own 12 15 rfl).trans e12) (Sx.ev 17 (.slice la p.nl lc)) hrun) (Y.RT.of hs rfl (hR.new (q := Y.MP.row w7.heap.size 84 3 p.nl (tbL (lvV p) p.nl 3)) g2 rfl ⟨_, _, rfl, hO2⟩))
 ·intro ac done u W Sx hT
  have hs := Sx.no 17 (by kernel_rfl)
  have hR := hT.1 hs
  have g : Gr w7 W := hR.1
  obtain ⟨ra3, rc3, e3, hI3⟩ := hR.get (i := 3) (Y.MP.row w7.heap.size 74 4 p.nt (tbL (tvV p) p.nt 4)) rfl (Sx.an 3 (by kernel_rfl))
  obtain ⟨ra7, rc7, e7, hI7⟩ := hR.get (i := 7) (Y.MP.row w7.heap.size 53 6 p.nh (tbL (hvV p) p.nh 6)) rfl (Sx.an 7 (by kernel_rfl))
  obtain ⟨ra11, rc11, e11, hI11⟩ := hR.get (i := 11) (Y.MP.row w7.heap.size 65 3 p.nb (tbL (bvV p) p.nb 3)) rfl (Sx.an 11 (by kernel_rfl))
  obtain ⟨ra15, rc15, e15, hI15⟩ := hR.get (i := 15) (Y.MP.row w7.heap.size 84 3 p.nl (tbL (lvV p) p.nl 3)) rfl (Sx.an 15 (by kernel_rfl))
  exact X.valN (X.w0 rfl) rfl (Y.bd rfl (X.b4 ((Sx.own 3 6 rfl).trans e3) ((Sx.own 7 10 rfl).trans e7) ((Sx.own 11 14 rfl).trans e11) ((Sx.own 15 18 rfl).trans e15)) (Try.bd27f _ _ _ _ _ _ _ _ _ _ _ _ _)) (Y.RT.of hs rfl (hR.new (q := Y.MP.pbv w7.heap.size p) (Gr.refl _) rfl ⟨_, _, _, _, _, _, _, _, rfl, hI3, hI7, hI11, hI15⟩))
 ·intro ac done u W Sx hT
  have hR := hT.1 Sx.nd
  have g : Gr w7 W := hR.1
  obtain ⟨t0, c0, t1, c1, t2, c2, t3, c3, e16, hO0, hO1, hO2, hO3⟩ := hR.get (i := 16) (Y.MP.pbv w7.heap.size p) rfl (Sx.an 16 (by kernel_rfl))
  obtain ⟨W2, hrun, hV2, hon⟩ := ownP_store (P := Try.prog) (vs := [.slice t0 p.nt c0, .slice t1 p.nh c1, .slice t2 p.nb c2, .slice t3 p.nl c3]) (t := 27) (hVw7.gr g) rfl (fun W => Try.siz27 W) rfl
  exact X.unit (X.w0 rfl) rfl (X.store rfl (Sx.ev 2 (Vp w6.heap.size)) ((Sx.own 16 19 rfl).trans e16) hrun) (Y.RT.fin (by subst hTT; exact ⟨t0, c0, t1, c1, t2, c2, t3, c3, hV2, (g.only _).trans hon, hO0.after hon hbB, hO1.after hon hbB, hO2.after hon hbB, hO3.after hon hbB⟩))
 rintro ac u w8 hs hd hl_ ho hT
 rw [hTT] at hT
 obtain ⟨t0, c0, t1, c1, t2, c2, t3, c3, hV2, hon, hO0, hO1, hO2, hO3⟩ := hT
 clear hTT
 replace F : Fr ac 20 [(2, Vp w6.heap.size)] := X.fr hs hd hl_ _ (by kernel_rfl)
 clear hs hd hl_ ho
 replace G := Y.Only.up G hon (by omega)
 refine X.thenN ?_
 refine Y.ret ?_
 exact Y.ret0 (v := .agg #[.slice t0 p.nt c0, .slice t1 p.nh c1, .slice t2 p.nb c2, .slice t3 p.nl c3]) F (Y.rcl F rfl (by kernel_rfl) (ownP_load hV2 (Try.agg27 _) (Try.siz27 _) rfl)) ⟨t0, t1, t2, t3, c0, c1, c2, c3, rfl, ⟨hO0.lower hgL, hO1.lower hgL, hO2.lower hgL, hO3.lower hgL, hP.s1, hP.s2⟩, G⟩
end
section
set_option linter.unusedVariables false
open Go.RowKit
section
variable {p : Pb} {b m0 m1 m2 : Int}
end
end
section
set_option linter.unusedVariables false
open Go.RowKit
def antR (a b : List Int) : Prop := ¬ a <+: b ∧ ¬ b <+: a
def antiB (L : List (List Int)) : Bool := allN (fun i => allN (fun k => decide (k = i) || !(L[i]?.getD []).isPrefixOf (L[k]?.getD [])) L.length) L.length
def adjB (S : List (List Int)) : Bool := allN (fun i => !(S[i]?.getD []).isPrefixOf (S[i + 1]?.getD [])) (S.length - 1)
def sumP (nh nt : Nat) (L : List (List Int)) : Nat := (L.map fun x => nh ^ (nt - x.length)).sum
def covB (nh nt : Nat) (L : List (List Int)) : Bool := if nh = 0 ∧ 0 < nt then true else antiB L && decide (sumP nh nt L = nh ^ nt)
theorem gtD {L : List (List Int)} {i : Nat} (h : i < L.length) : L[i]?.getD [] = L[i] := by rw [List.getElem?_eq_getElem h]; rfl
theorem pfx_false {a b : List Int} : (!a.isPrefixOf b) = true ↔ ¬ a <+: b := by
  rw [Bool.not_eq_true', ← List.isPrefixOf_iff_prefix]
  cases a.isPrefixOf b <;> simp
theorem anti_iff {L : List (List Int)} : antiB L = true ↔ L.Pairwise antR := by
  unfold antiB
  rw [allN_iff, List.pairwise_iff_getElem]
  constructor
  · intro h i j hi hj hij
    have h1 := allN_iff.1 (h i hi) j hj
    have h2 := allN_iff.1 (h j hj) i hi
    rw [decide_eq_false (show ¬ j = i by omega), Bool.false_or, pfx_false, gtD hi, gtD hj] at h1
    rw [decide_eq_false (show ¬ i = j by omega), Bool.false_or, pfx_false, gtD hi, gtD hj] at h2
    exact ⟨h1, h2⟩
  · intro h i hi
    refine allN_iff.2 fun k hk => ?_
    by_cases e : k = i
    · rw [decide_eq_true e]; rfl
    · rw [decide_eq_false e, Bool.false_or, pfx_false, gtD hi, gtD hk]
      by_cases e2 : i < k
      · exact (h i k hi hk e2).1
      · exact (h k i hk hi (by omega)).2
theorem cmpI_v (x y : Int) : (x < y ∧ cmpI x y = -1) ∨ (x = y ∧ cmpI x y = 0) ∨ (y < x ∧ cmpI x y = 1) := by
  unfold cmpI
  split
  · left; omega
  · split <;> omega
/-- what lies between a row and one that begins with it begins with it -/
theorem pfx_mid : ∀ (a b c : List Int), a <+: c → cmpL a b ≤ 0 → cmpL b c ≤ 0 → a <+: b := by
  intro a
  induction a with
  | nil => intro b c _ _ _; exact List.nil_prefix
  | cons x a ih =>
    intro b c h h1 h2
    cases c with
    | nil => simp at h
    | cons y c =>
      rw [List.cons_prefix_cons] at h
      obtain ⟨rfl, h⟩ := h
      cases b with
      | nil => simp [cmpL] at h1
      | cons z b =>
        unfold cmpL at h1 h2
        rcases cmpI_v x z with ⟨k1, e1⟩ | ⟨k1, e1⟩ | ⟨k1, e1⟩
        · rcases cmpI_v z x with ⟨k2, e2⟩ | ⟨k2, e2⟩ | ⟨k2, e2⟩
          · omega
          · omega
          · rw [e2] at h2; simp at h2
        · subst k1
          rw [e1] at h1 h2
          simp only [if_true] at h1 h2
          rw [List.cons_prefix_cons]
          exact ⟨rfl, ih b c h h1 h2⟩
        · rw [e1] at h1; simp at h1
theorem pfx_eq : ∀ (a b : List Int), a <+: b → cmpL b a ≤ 0 → b = a := by
  intro a
  induction a with
  | nil =>
    intro b _ h
    cases b with
    | nil => rfl
    | cons y b => simp [cmpL] at h
  | cons x a ih =>
    intro b h h1
    cases b with
    | nil => simp at h
    | cons y b =>
      rw [List.cons_prefix_cons] at h
      obtain ⟨rfl, h⟩ := h
      unfold cmpL at h1
      have e : cmpI x x = 0 := by unfold cmpI; simp
      rw [e] at h1
      simp only [if_true] at h1
      rw [ih b h h1]
/-- in a sorted list the neighbours tell -/
theorem adj_iff {S : List (List Int)} (hs : ∀ i j, i < j → j < S.length → cmpL (S[i]?.getD []) (S[j]?.getD []) ≤ 0) : adjB S = true ↔ S.Pairwise antR := by
  unfold adjB
  rw [allN_iff, List.pairwise_iff_getElem]
  constructor
  · intro h i j hi hj hij
    have key : ¬ S[i] <+: S[j] := fun hp => by
      have h1 := h i (by omega)
      rw [pfx_false, gtD hi, gtD (show i + 1 < S.length by omega)] at h1
      by_cases e : j = i + 1
      · subst e; exact h1 hp
      · have a1 := hs i (i + 1) (by omega) (by omega)
        have a2 := hs (i + 1) j (by omega) hj
        rw [gtD hi, gtD (show i + 1 < S.length by omega)] at a1
        rw [gtD hj, gtD (show i + 1 < S.length by omega)] at a2
        exact h1 (pfx_mid _ _ _ hp a1 a2)
    refine ⟨key, fun hp => ?_⟩
    have a1 := hs i j hij hj
    rw [gtD hi, gtD hj] at a1
    have := pfx_eq _ _ hp a1
    rw [this] at key
    exact key (List.prefix_refl _)
  · intro h i hi
    rw [pfx_false, gtD (show i < S.length by omega), gtD (show i + 1 < S.length by omega)]
    exact (h i (i + 1) (by omega) (by omega) (by omega)).1
theorem antR_symm {a b : List Int} (h : antR a b) : antR b a := ⟨h.2, h.1⟩
theorem adj_anti {S L : List (List Int)} (hp : S.Perm L) (hs : ∀ i j, i < j → j < S.length → cmpL (S[i]?.getD []) (S[j]?.getD []) ≤ 0) : adjB S = antiB L := by
  have h1 := adj_iff hs
  have h2 := anti_iff (L := L)
  have h3 : S.Pairwise antR ↔ L.Pairwise antR := hp.pairwise_iff (fun h => antR_symm h)
  cases e : adjB S <;> cases e2 : antiB L
  · rfl
  · exact absurd (h1.2 (h3.2 (h2.1 e2))) (by rw [e]; decide)
  · exact absurd (h2.2 (h3.1 (h1.1 e))) (by rw [e2]; decide)
  · rfl
/-- a leaf is right -/
def lfB (p : Pb) (cost : Int) (x : List Int × Int) : Bool := decide (x.1.length ≤ p.nt) && hosB p x.1 && (decide (x.2 = 1) && hopeB p (tim p) x.1 || decide (x.2 = 2) && decide (cost ≤ bndV p x.1))
/-- the answer to leaves -/
def pvsB (p : Pb) (cost : Int) (L : List (List Int × Int)) : Bool := L.all (lfB p cost) && covB p.nh p.nt (L.map (·.1))
theorem sum_app {nh nt : Nat} {A B : List (List Int)} : sumP nh nt (A ++ B) = sumP nh nt A + sumP nh nt B := by simp [sumP]
end
section
open Go.RowKit

theorem pfx_no {a b : List Int} (h : ¬ b <+: a) : b.isPrefixOf a = false := by
  cases e : b.isPrefixOf a with
  | false => rfl
  | true => exact absurd (List.isPrefixOf_iff_prefix.1 e) h
theorem pfx_yes {a b : List Int} (hl : b.length ≤ a.length) (h : ∀ j, j < b.length → a[j]?.getD 0 = b[j]?.getD 0) : b.isPrefixOf a = true := by
  rw [List.isPrefixOf_iff_prefix, List.prefix_iff_eq_take]
  refine List.ext_getElem (by rw [List.length_take]; omega) fun i h1 h2 => ?_
  have := h i h1
  rw [List.getElem?_eq_getElem h1, List.getElem?_eq_getElem (by omega)] at this
  rw [List.getElem_take]
  exact this.symm
theorem pfx_at {a b : List Int} {i : Nat} (h : b <+: a) (hi : i < b.length) : a[i]?.getD 0 ≠ b[i]?.getD 0 → False := fun k => by
  obtain ⟨t, rfl⟩ := h
  rw [List.getElem?_append_left hi] at k
  exact k rfl
/-- more leaves than are looked at, or a longer row -/
def manyB (E : List LfE) : Bool := !(allN (fun i => decide ((E[i]?.elim 0 fun x => x.b.xs.length) ≤ 30)) E.length) || decide ((700 : Int) < E.length)
theorem many_no {E : List LfE} (h : manyB E = false) : E.length ≤ 700 ∧ ∀ x ∈ E, x.b.xs.length ≤ 30 := by
  unfold manyB at h
  rw [Bool.or_eq_false_iff, Bool.not_eq_false', decide_eq_false_iff_not] at h
  refine ⟨by omega, fun x hx => ?_⟩
  obtain ⟨i, hi, e⟩ := List.getElem_of_mem hx
  have := allN_iff.1 h.1 i hi
  rw [List.getElem?_eq_getElem hi, e] at this
  exact of_decide_eq_true this
theorem many_yes {E : List LfE} {i : Nat} {x : LfE} (hx : E[i]? = some x) (h : ¬ x.b.xs.length ≤ 30) : manyB E = true := by
  unfold manyB
  cases e : allN (fun i => decide ((E[i]?.elim 0 fun x => x.b.xs.length) ≤ 30)) E.length with
  | false => rfl
  | true =>
    have hi := (List.getElem?_eq_some_iff.1 hx).1
    have := allN_iff.1 e i hi
    rw [hx] at this
    exact absurd (of_decide_eq_true this) h
theorem many_end {E : List LfE} (h : ∀ (j : Nat) (x : LfE), E[j]? = some x → x.b.xs.length ≤ 30) : manyB E = decide ((700 : Int) < E.length) := by
  unfold manyB
  rw [allN_iff.2 (fun i hi => by rw [List.getElem?_eq_getElem hi]; exact decide_eq_true (h i _ (List.getElem?_eq_getElem hi)))]
  rfl
set_option maxRecDepth 100000 in
set_option maxHeartbeats 400000 in
theorem equal_any (a b : Option Addr) (c d : Nat) (xs ys : List Int) (w : World) (hX : Ints w a xs.length xs) (hY : Ints w b ys.length ys) :
  Calls Try.prog 91 #[.slice a xs.length c, .slice b ys.length d] w fun e w' => e = .returned (.bool (decide (xs = ys))) ∧ Gr w w' := by
 have G := Gr.refl w
 have hx := hX
 have hy := hY
 have hxl := hx.lt
 have hyl := hy.lt
 refine Y.calls 26 Try.func91 rfl rfl ?_
 intro ac F0
 have F : Fr ac 26 [(0, .slice a xs.length c), (1, .slice b ys.length d)] := F0.sub _
 clear F0
 refine Y.sg F [(0, .slice a xs.length c), (1, .slice b ys.length d)] (Y.pv F (X.assign rfl (X.kc (.bool false) rfl)) fun ac F=>Y.fin F) ?_;clear F ac;intro ac F
 refine Y.seq ?_
 refine Y.sg F [(0, .slice a xs.length c), (1, .slice b ys.length d), (10, .bool ((xs.length : Int) != ys.length))] (Y.pv F (X.move rfl (F.ev 0 (.slice a xs.length c))) fun ac F=>Y.pv F (X.len1 Try.underlying34 rfl (F.ev 6 (.slice a xs.length c))) fun ac F=>Y.pv F (X.move rfl (F.ev 1 (.slice b ys.length d))) fun ac F=>Y.pv F (X.len1 Try.underlying34 rfl (F.ev 8 (.slice b ys.length d))) fun ac F=>Y.pv F (X.binop rfl (F.ev 7 (Vi xs.length)) (F.ev 9 (Vi ys.length)) (X.neqI Try.underlying3 rfl)) fun ac F=>Y.fin F) ?_;clear F ac;intro ac F
 cases h3 : ((xs.length : Int) != ys.length) with
 | false =>
  try rw [h3] at F
  have h3p : (xs.length : Int) = ys.length := by simpa using h3
  have hl2 : xs.length = ys.length := by omega
  refine Y.condF (F.ev 10 (.bool false)) ?_
  refine Y.skip ?_
  refine X.thenN ?_
  refine Y.seq ?_
  refine Y.sg F [(0, .slice a xs.length c), (1, .slice b ys.length d), (12, Vi xs.length), (13, Vi 0)] (Y.pv F (X.move rfl (F.ev 0 (.slice a xs.length c))) fun ac F=>Y.pv F (X.len1 Try.underlying34 rfl (F.ev 11 (.slice a xs.length c))) fun ac F=>Y.pv F (X.move rfl (X.kc (Vi 0) rfl)) fun ac F=>Y.fin F) ?_;clear F ac;intro ac F
  refine Y.block ?_
  refine Y.loop (fun me_ ac wr => ∃ (i : Nat), me_ = xs.length - i ∧ Only (fun b => False) w wr ∧ i ≤ xs.length ∧ (∀ j, j < i → xs[j]?.getD 0 = ys[j]?.getD 0) ∧ Fr ac 26 [(0, .slice a xs.length c), (1, .slice b ys.length d), (12, Vi xs.length), (13, Vi i)]) _ ⟨0, rfl, Only.refl _ _, Nat.zero_le _, fun j h => by omega, F.sub _⟩ ?_
  have hxB1 := hx
  have hyB1 := hy
  have GB1 := G
  clear F ac
  intro me_ ac w4 hI
  obtain ⟨i, rfl, hO1, hi, hsame, F⟩ := hI
  replace G := GB1.trans (hO1.gr (fun _ _ h => h))
  replace hx := (hX).gr G
  replace hy := (hY).gr G
  refine Y.sg F [(0, .slice a xs.length c), (1, .slice b ys.length d), (12, Vi xs.length), (13, Vi i), (14, .bool (decide ((i : Int) < xs.length)))] (Y.pv F (X.binop rfl (F.ev 13 (Vi i)) (F.ev 12 (Vi xs.length)) (X.lssI Try.underlying3 rfl)) fun ac F=>Y.fin F) ?_;clear F ac;intro ac F
  refine Y.seq ?_
  cases h5 : decide ((i : Int) < xs.length) with
  | false =>
   try rw [h5] at F
   have h5p : ¬ ((i : Int) < xs.length) := of_decide_eq_false h5
   have hin : i = xs.length := by omega
   refine Y.condF (F.ev 14 (.bool false)) ?_
   refine Y.exit ?_
   refine X.thenX (X.thenX (X.blockX (X.thenN ?_)))
   refine Y.sg F [(4, .bool true)] (Y.pv F (X.assign rfl (X.kc (.bool true) rfl)) fun ac F=>Y.fin F) ?_;clear F ac;intro ac F
   refine Y.ret ?_
   exact Y.ret0 (v := .bool true) F (Y.r1 F) ⟨by rw [same_yes hl2 (fun j hj => hsame j (by omega))], G⟩
  | true =>
   try rw [h5] at F
   have h5p : ((i : Int) < xs.length) := of_decide_eq_true h5
   refine Y.condT (F.ev 14 (.bool true)) ?_
   refine Y.skip ?_
   refine X.thenN ?_
   refine Y.seq ?_
   refine Y.block ?_
   refine Y.sg F [(0, .slice a xs.length c), (1, .slice b ys.length d), (5, Vi i), (12, Vi xs.length), (13, Vi i)] (Y.pv F (X.move rfl (F.ev 13 (Vi i))) fun ac F=>Y.pv F (X.assign rfl (F.ev 15 (Vi i))) fun ac F=>Y.fin F) ?_;clear F ac;intro ac F
   refine Y.seq ?_
   obtain ⟨pd6, pe6, -, pc6⟩ := hx.at (j := i) (by omega)
   subst pe6
   have hC : RCells w4 [(pd6.add i, Vi (xs[i]?.getD 0))] := (RCells.cons pc6 (RCells.nil _))
   clear pc6
   obtain ⟨pd7, pe7, -, pc7⟩ := hy.at (j := i) (by omega)
   subst pe7
   replace hC := hC.append (show RCells w4 ([(pd7.add i, Vi (ys[i]?.getD 0))]) from (RCells.cons pc7 (RCells.nil _)))
   clear pc7
   refine Y.region F [some (.slice (some pd6) xs.length c), some (Vi i), some (.pointer (some (pd6.add i))), some (Vi (xs[i]?.getD 0)), some (.slice (some pd7) ys.length d), some (Vi i), some (.pointer (some (pd7.add i))), some (Vi (ys[i]?.getD 0)), some (.bool ((xs[i]?.getD 0 : Int) != (ys[i]?.getD 0)))] [] rfl ⟨by kernel_rfl, of_decide_eq_true (by kernel_rfl), by kernel_rfl, by kernel_rfl, by kernel_rfl⟩ ⟨?_, ?_, ?_, ?_, ?_, ?_, ?_, ?_, ?_, trivial⟩ ?_
   ·intro ac done u W Sx hR
    exact X.vl (X.move rfl (Sx.ev 0 (.slice (some pd6) xs.length c))) hR.st0
   ·intro ac done u W Sx hR
    exact X.vl (X.move rfl (Sx.ev 5 (Vi i))) hR.st0
   ·intro ac done u W Sx hR
    exact X.val (X.w0 rfl) rfl (X.index rfl (Sx.ev 16 (.slice (some pd6) xs.length c)) (Sx.ev 17 (Vi i)) (X.idx (k := i) Try.underlying34 (Try.siz3 _) (by omega) (by omega) (by rw [Nat.mul_one]))) hR.st0
   ·intro ac done u W Sx hR
    have g : Gr w4 W := hR.1
    exact X.vl (X.load rfl (Sx.ev 18 (.pointer (some (pd6.add i)))) (X.ld1 (Try.agg3 _) ((hC.gr g).at 0 rfl))) hR.st0
   ·intro ac done u W Sx hR
    exact X.vl (X.move rfl (Sx.ev 1 (.slice (some pd7) ys.length d))) hR.st0
   ·intro ac done u W Sx hR
    exact X.vl (X.move rfl (Sx.ev 5 (Vi i))) hR.st0
   ·intro ac done u W Sx hR
    exact X.val (X.w0 rfl) rfl (X.index rfl (Sx.ev 20 (.slice (some pd7) ys.length d)) (Sx.ev 21 (Vi i)) (X.idx (k := i) Try.underlying34 (Try.siz3 _) (by omega) (by omega) (by rw [Nat.mul_one]))) hR.st0
   ·intro ac done u W Sx hR
    have g : Gr w4 W := hR.1
    exact X.vl (X.load rfl (Sx.ev 22 (.pointer (some (pd7.add i)))) (X.ld1 (Try.agg3 _) ((hC.gr g).at 1 rfl))) hR.st0
   ·intro ac done u W Sx hR
    exact X.vl (X.binop rfl (Sx.ev 19 (Vi (xs[i]?.getD 0))) (Sx.ev 23 (Vi (ys[i]?.getD 0))) (X.neqI Try.underlying3 rfl)) hR.st0
   intro ac u w8 hs hd hl ho hR
   have g : Gr w4 w8 := hR.1
   replace F : Fr ac 26 [(0, .slice (some pd6) xs.length c), (1, .slice (some pd7) ys.length d), (12, Vi xs.length), (13, Vi i), (24, .bool ((xs[i]?.getD 0 : Int) != (ys[i]?.getD 0)))] := X.fr hs hd hl _ (by kernel_rfl)
   clear hs hd hl ho hR
   replace G := G.trans g
   replace hC := hC.gr g
   replace hO1 := hO1.thenGr g
   replace hx := hx.gr g
   replace hy := hy.gr g
   clear g
   refine X.thenN ?_
   cases h9 : ((xs[i]?.getD 0 : Int) != (ys[i]?.getD 0)) with
   | false =>
    try rw [h9] at F
    have h9p : (xs[i]?.getD 0 : Int) = (ys[i]?.getD 0) := by simpa using h9
    refine Y.condF (F.ev 24 (.bool false)) ?_
    refine Y.skip ?_
    refine X.blockN (X.thenN ?_)
    refine Y.lg F [(0, .slice (some pd6) xs.length c), (1, .slice (some pd7) ys.length d), (12, Vi xs.length), (13, Vi ((i : Int) + 1))] (by
     refine Y.pv F (X.binop rfl (F.ev 13 (Vi i)) (X.kc (Vi 1) rfl) (X.addI Try.underlying3 rfl (by omega) (by omega))) fun ac F=>?_
     refine Y.pv F (X.move rfl (F.ev 25 (Vi ((i : Int) + 1)))) fun ac F=>?_
     exact Y.fin F) ?_;clear F ac;intro ac F
    refine ⟨_, ?_, i + 1, rfl, hO1, by omega, fun j hj => if e : j = i then by rw [e]; exact (by simpa using h9p) else hsame j (by omega), F.sub _⟩
    omega
   | true =>
    try rw [h9] at F
    have h9p : ¬ (xs[i]?.getD 0 : Int) = (ys[i]?.getD 0) := by simpa using h9
    refine Y.condT (F.ev 24 (.bool true)) ?_
    refine Y.sg F [(4, .bool false)] (Y.pv F (X.assign rfl (X.kc (.bool false) rfl)) fun ac F=>Y.fin F) ?_;clear F ac;intro ac F
    refine Y.ret ?_
    refine X.blockR (X.thenR (X.thenR (X.blockR (X.thenR ?_))))
    exact Y.ret0 (v := .bool false) F (Y.r1 F) ⟨by rw [same_no (j := i) (by omega) hl2 (by simpa using h9p)], G⟩
 | true =>
  try rw [h3] at F
  have h3p : ¬ (xs.length : Int) = ys.length := by simpa using h3
  refine Y.condT (F.ev 10 (.bool true)) ?_
  refine Y.sg F [(4, .bool false)] (Y.pv F (X.assign rfl (X.kc (.bool false) rfl)) fun ac F=>Y.fin F) ?_;clear F ac;intro ac F
  refine Y.ret ?_
  refine X.thenR ?_
  exact Y.ret0 (v := .bool false) F (Y.r1 F) ⟨by rw [show decide (xs = ys) = false by simp only [decide_eq_false_iff_not]; intro e; subst e; omega], G⟩
set_option maxRecDepth 100000 in
set_option maxHeartbeats 400000 in
theorem begins_any (a b : Option Addr) (c d : Nat) (xs ys : List Int) (w : World) (hX : Ints w a xs.length xs) (hY : Ints w b ys.length ys) :
  Calls Try.prog 114 #[.slice a xs.length c, .slice b ys.length d] w fun e w' => e = .returned (.bool (ys.isPrefixOf xs)) ∧ Gr w w' := by
 have G := Gr.refl w
 have hx := hX
 have hy := hY
 have hxl := hx.lt
 have hyl := hy.lt
 refine Y.calls 26 Try.func114 rfl rfl ?_
 intro ac F0
 have F : Fr ac 26 [(0, .slice a xs.length c), (1, .slice b ys.length d)] := F0.sub _
 clear F0
 refine Y.sg F [(0, .slice a xs.length c), (1, .slice b ys.length d)] (Y.pv F (X.assign rfl (X.kc (.bool false) rfl)) fun ac F=>Y.fin F) ?_;clear F ac;intro ac F
 refine Y.seq ?_
 refine Y.sg F [(0, .slice a xs.length c), (1, .slice b ys.length d), (10, .bool (decide ((xs.length : Int) < ys.length)))] (Y.pv F (X.move rfl (F.ev 0 (.slice a xs.length c))) fun ac F=>Y.pv F (X.len1 Try.underlying34 rfl (F.ev 6 (.slice a xs.length c))) fun ac F=>Y.pv F (X.move rfl (F.ev 1 (.slice b ys.length d))) fun ac F=>Y.pv F (X.len1 Try.underlying34 rfl (F.ev 8 (.slice b ys.length d))) fun ac F=>Y.pv F (X.binop rfl (F.ev 7 (Vi xs.length)) (F.ev 9 (Vi ys.length)) (X.lssI Try.underlying3 rfl)) fun ac F=>Y.fin F) ?_;clear F ac;intro ac F
 cases h3 : decide ((xs.length : Int) < ys.length) with
 | false =>
  try rw [h3] at F
  have h3p : ¬ ((xs.length : Int) < ys.length) := of_decide_eq_false h3
  refine Y.condF (F.ev 10 (.bool false)) ?_
  refine Y.skip ?_
  refine X.thenN ?_
  refine Y.seq ?_
  refine Y.sg F [(0, .slice a xs.length c), (1, .slice b ys.length d), (5, Vi 0)] (Y.pv F (X.assign rfl (X.kc (Vi 0) rfl)) fun ac F=>Y.fin F) ?_;clear F ac;intro ac F
  refine Y.block ?_
  refine Y.loop (fun me_ ac wr => ∃ (i : Nat), me_ = ys.length - i ∧ Only (fun b => False) w wr ∧ i ≤ ys.length ∧ (∀ j, j < i → xs[j]?.getD 0 = ys[j]?.getD 0) ∧ Fr ac 26 [(0, .slice a xs.length c), (1, .slice b ys.length d), (5, Vi i)]) _ ⟨0, rfl, Only.refl _ _, Nat.zero_le _, fun j h => by omega, F.sub _⟩ ?_
  have hxB1 := hx
  have hyB1 := hy
  have GB1 := G
  clear F ac
  intro me_ ac w4 hI
  obtain ⟨i, rfl, hO1, hi, hsame, F⟩ := hI
  replace G := GB1.trans (hO1.gr (fun _ _ h => h))
  replace hx := (hX).gr G
  replace hy := (hY).gr G
  refine Y.seq ?_
  refine Y.sg F [(0, .slice a xs.length c), (1, .slice b ys.length d), (5, Vi i), (14, .bool (decide ((i : Int) < ys.length)))] (Y.pv F (X.move rfl (F.ev 5 (Vi i))) fun ac F=>Y.pv F (X.move rfl (F.ev 1 (.slice b ys.length d))) fun ac F=>Y.pv F (X.len1 Try.underlying34 rfl (F.ev 12 (.slice b ys.length d))) fun ac F=>Y.pv F (X.binop rfl (F.ev 11 (Vi i)) (F.ev 13 (Vi ys.length)) (X.lssI Try.underlying3 rfl)) fun ac F=>Y.fin F) ?_;clear F ac;intro ac F
  cases h5 : decide ((i : Int) < ys.length) with
  | false =>
   try rw [h5] at F
   have h5p : ¬ ((i : Int) < ys.length) := of_decide_eq_false h5
   have hin : i = ys.length := by omega
   refine Y.condF (F.ev 14 (.bool false)) ?_
   refine Y.exit ?_
   refine X.thenX (X.thenX (X.blockX (X.thenN ?_)))
   refine Y.sg F [(4, .bool true)] (Y.pv F (X.assign rfl (X.kc (.bool true) rfl)) fun ac F=>Y.fin F) ?_;clear F ac;intro ac F
   refine Y.ret ?_
   exact Y.ret0 (v := .bool true) F (Y.r1 F) ⟨by rw [pfx_yes (by omega) (fun j hj => hsame j (by omega))], G⟩
  | true =>
   try rw [h5] at F
   have h5p : ((i : Int) < ys.length) := of_decide_eq_true h5
   refine Y.condT (F.ev 14 (.bool true)) ?_
   refine Y.skip ?_
   refine X.thenN ?_
   refine Y.seq ?_
   refine Y.block ?_
   refine Y.seq ?_
   obtain ⟨pd6, pe6, -, pc6⟩ := hx.at (j := i) (by omega)
   subst pe6
   have hC : RCells w4 [(pd6.add i, Vi (xs[i]?.getD 0))] := (RCells.cons pc6 (RCells.nil _))
   clear pc6
   obtain ⟨pd7, pe7, -, pc7⟩ := hy.at (j := i) (by omega)
   subst pe7
   replace hC := hC.append (show RCells w4 ([(pd7.add i, Vi (ys[i]?.getD 0))]) from (RCells.cons pc7 (RCells.nil _)))
   clear pc7
   refine Y.region F [some (.slice (some pd6) xs.length c), some (Vi i), some (.pointer (some (pd6.add i))), some (Vi (xs[i]?.getD 0)), some (.slice (some pd7) ys.length d), some (Vi i), some (.pointer (some (pd7.add i))), some (Vi (ys[i]?.getD 0)), some (.bool ((xs[i]?.getD 0 : Int) != (ys[i]?.getD 0)))] [] rfl ⟨by kernel_rfl, of_decide_eq_true (by kernel_rfl), by kernel_rfl, by kernel_rfl, by kernel_rfl⟩ ⟨?_, ?_, ?_, ?_, ?_, ?_, ?_, ?_, ?_, trivial⟩ ?_
   ·intro ac done u W Sx hR
    exact X.vl (X.move rfl (Sx.ev 0 (.slice (some pd6) xs.length c))) hR.st0
   ·intro ac done u W Sx hR
    exact X.vl (X.move rfl (Sx.ev 5 (Vi i))) hR.st0
   ·intro ac done u W Sx hR
    exact X.val (X.w0 rfl) rfl (X.index rfl (Sx.ev 17 (.slice (some pd6) xs.length c)) (Sx.ev 18 (Vi i)) (X.idx (k := i) Try.underlying34 (Try.siz3 _) (by omega) (by omega) (by rw [Nat.mul_one]))) hR.st0
   ·intro ac done u W Sx hR
    have g : Gr w4 W := hR.1
    exact X.vl (X.load rfl (Sx.ev 19 (.pointer (some (pd6.add i)))) (X.ld1 (Try.agg3 _) ((hC.gr g).at 0 rfl))) hR.st0
   ·intro ac done u W Sx hR
    exact X.vl (X.move rfl (Sx.ev 1 (.slice (some pd7) ys.length d))) hR.st0
   ·intro ac done u W Sx hR
    exact X.vl (X.move rfl (Sx.ev 5 (Vi i))) hR.st0
   ·intro ac done u W Sx hR
    exact X.val (X.w0 rfl) rfl (X.index rfl (Sx.ev 21 (.slice (some pd7) ys.length d)) (Sx.ev 22 (Vi i)) (X.idx (k := i) Try.underlying34 (Try.siz3 _) (by omega) (by omega) (by rw [Nat.mul_one]))) hR.st0
   ·intro ac done u W Sx hR
    have g : Gr w4 W := hR.1
    exact X.vl (X.load rfl (Sx.ev 23 (.pointer (some (pd7.add i)))) (X.ld1 (Try.agg3 _) ((hC.gr g).at 1 rfl))) hR.st0
   ·intro ac done u W Sx hR
    exact X.vl (X.binop rfl (Sx.ev 20 (Vi (xs[i]?.getD 0))) (Sx.ev 24 (Vi (ys[i]?.getD 0))) (X.neqI Try.underlying3 rfl)) hR.st0
   intro ac u w8 hs hd hl ho hR
   have g : Gr w4 w8 := hR.1
   replace F : Fr ac 26 [(0, .slice (some pd6) xs.length c), (1, .slice (some pd7) ys.length d), (5, Vi i), (25, .bool ((xs[i]?.getD 0 : Int) != (ys[i]?.getD 0)))] := X.fr hs hd hl _ (by kernel_rfl)
   clear hs hd hl ho hR
   replace G := G.trans g
   replace hC := hC.gr g
   replace hO1 := hO1.thenGr g
   replace hx := hx.gr g
   replace hy := hy.gr g
   clear g
   refine X.thenN ?_
   cases h9 : ((xs[i]?.getD 0 : Int) != (ys[i]?.getD 0)) with
   | false =>
    try rw [h9] at F
    have h9p : (xs[i]?.getD 0 : Int) = (ys[i]?.getD 0) := by simpa using h9
    refine Y.condF (F.ev 25 (.bool false)) ?_
    refine Y.skip ?_
    refine X.blockN (X.thenN ?_)
    refine Y.lg F [(0, .slice (some pd6) xs.length c), (1, .slice (some pd7) ys.length d), (5, Vi ((i : Int) + 1))] (by
     refine Y.pv F (X.move rfl (F.ev 5 (Vi i))) fun ac F=>?_
     refine Y.pv F (X.binop rfl (F.ev 15 (Vi i)) (X.kc (Vi 1) rfl) (X.addI Try.underlying3 rfl (by omega) (by omega))) fun ac F=>?_
     refine Y.pv F (X.assign rfl (F.ev 16 (Vi ((i : Int) + 1)))) fun ac F=>?_
     exact Y.fin F) ?_;clear F ac;intro ac F
    refine ⟨_, ?_, i + 1, rfl, hO1, by omega, fun j hj => if e : j = i then by rw [e]; exact (by simpa using h9p) else hsame j (by omega), F.sub _⟩
    omega
   | true =>
    try rw [h9] at F
    have h9p : ¬ (xs[i]?.getD 0 : Int) = (ys[i]?.getD 0) := by simpa using h9
    refine Y.condT (F.ev 25 (.bool true)) ?_
    refine Y.sg F [(4, .bool false)] (Y.pv F (X.assign rfl (X.kc (.bool false) rfl)) fun ac F=>Y.fin F) ?_;clear F ac;intro ac F
    refine Y.ret ?_
    refine X.blockR (X.thenR (X.thenR (X.blockR (X.thenR ?_))))
    exact Y.ret0 (v := .bool false) F (Y.r1 F) ⟨by rw [pfx_no (fun h => pfx_at (i := i) h (by omega) (by simpa using h9p))], G⟩
 | true =>
  try rw [h3] at F
  have h3p : ((xs.length : Int) < ys.length) := of_decide_eq_true h3
  refine Y.condT (F.ev 10 (.bool true)) ?_
  refine Y.sg F [(4, .bool false)] (Y.pv F (X.assign rfl (X.kc (.bool false) rfl)) fun ac F=>Y.fin F) ?_;clear F ac;intro ac F
  refine Y.ret ?_
  refine X.thenR ?_
  exact Y.ret0 (v := .bool false) F (Y.r1 F) ⟨by rw [pfx_no (fun h => by have := h.length_le; omega)], G⟩
theorem pow_sm {n k : Nat} (h : n ≤ 6) (hk : k ≤ 10) : n ^ k ≤ 60466176 := by
 have h1 : n ^ k ≤ 6 ^ k := Nat.pow_le_pow_left h k
 have h2 : (6 : Nat) ^ k ≤ 6 ^ 10 := Nat.pow_le_pow_right (by decide) hk
 have h3 : (6 : Nat) ^ 10 = 60466176 := by decide
 omega
set_option maxRecDepth 100000 in
set_option maxHeartbeats 400000 in
theorem plansC_any (p : Pb) (ta ha ba la : Option Addr) (tc hc bc lc : Nat) (bp m : Nat) (w : World) (hP : PbAt w p ta ha ba la tc hc bc lc) (hq : RCells w [(⟨bp, 0, none⟩, .slice ta p.nt tc), (⟨bp, 1, none⟩, .slice ha p.nh hc), (⟨bp, 2, none⟩, .slice ba p.nb bc), (⟨bp, 3, none⟩, .slice la p.nl lc)]) (hh6 : p.nh ≤ 6) (hm : m ≤ 10) :
  Calls Try.prog 87 #[Vi m, Vp bp] w fun e w' => e = .returned (Vi ((p.nh ^ m : Nat) : Int)) ∧ Gr w w' := by
 have G := Gr.refl w
 have hpt := hP.t
 have hph := hP.h
 have hpb := hP.b
 have hpl := hP.l
 have hplen := hP.len
 obtain ⟨hn1, hn2, hn3, hn4⟩ := hplen
 have hcp1 := hpt.cap
 have hcp2 := hph.cap
 have hcp3 := hpb.cap
 have hcp4 := hpl.cap
 have hC := hq
 refine Y.calls 15 Try.func87 rfl rfl ?_
 intro ac F0
 have F : Fr ac 15 [(0, Vi m), (1, Vp bp)] := F0.sub _
 clear F0
 refine Y.sg F [(0, Vi m), (1, Vp bp)] (Y.pv F (X.assign rfl (X.kc (Vi 0) rfl)) fun ac F=>Y.fin F) ?_;clear F ac;intro ac F
 refine Y.sg F [(0, Vi m), (1, Vp bp), (4, Vi 1)] (Y.pv F (X.assign rfl (X.kc (Vi 1) rfl)) fun ac F=>Y.fin F) ?_;clear F ac;intro ac F
 refine Y.seq ?_
 refine Y.sg F [(1, Vp bp), (4, Vi 1), (5, Vi m), (6, Vi 0)] (Y.pv F (X.move rfl (F.ev 0 (Vi m))) fun ac F=>Y.pv F (X.move rfl (X.kc (Vi 0) rfl)) fun ac F=>Y.fin F) ?_;clear F ac;intro ac F
 refine Y.block ?_
 refine Y.loop (fun me_ ac wr => ∃ (k : Nat), me_ = m - k ∧ Only (fun b => False) w wr ∧ k ≤ m ∧ Fr ac 15 [(1, Vp bp), (4, Vi ((p.nh ^ k : Nat) : Int)), (5, Vi m), (6, Vi k)]) _ ⟨0, rfl, Only.refl _ _, Nat.zero_le _, F.sub _⟩ ?_
 have hptB1 := hpt
 have hphB1 := hph
 have hpbB1 := hpb
 have hplB1 := hpl
 have GB1 := G
 have hCB1 := hC
 clear F ac
 intro me_ ac w3 hI
 obtain ⟨k, rfl, hO1, hk, F⟩ := hI
 replace G := GB1.trans (hO1.gr (fun _ _ h => h))
 replace hpt := (hP.t).gr G
 replace hph := (hP.h).gr G
 replace hpb := (hP.b).gr G
 replace hpl := (hP.l).gr G
 replace hC := (RCells.cons (hO1.cell (hCB1.at 0 rfl) (fun h => h)) (RCells.cons (hO1.cell (hCB1.at 1 rfl) (fun h => h)) (RCells.cons (hO1.cell (hCB1.at 2 rfl) (fun h => h)) (RCells.cons (hO1.cell (hCB1.at 3 rfl) (fun h => h)) (RCells.nil _)))))
 refine Y.sg F [(1, Vp bp), (4, Vi ((p.nh ^ k : Nat) : Int)), (5, Vi m), (6, Vi k), (7, .bool (decide ((k : Int) < m)))] (Y.pv F (X.binop rfl (F.ev 6 (Vi k)) (F.ev 5 (Vi m)) (X.lssI Try.underlying3 rfl)) fun ac F=>Y.fin F) ?_;clear F ac;intro ac F
 refine Y.seq ?_
 cases h4 : decide ((k : Int) < m) with
 | false =>
  try rw [h4] at F
  have h4p : ¬ ((k : Int) < m) := of_decide_eq_false h4
  have hkm : k = m := by omega
  refine Y.condF (F.ev 7 (.bool false)) ?_
  refine Y.exit ?_
  refine X.thenX (X.thenX (X.blockX (X.thenN ?_)))
  refine Y.sg F [(3, Vi ((p.nh ^ k : Nat) : Int))] (Y.pv F (X.move rfl (F.ev 4 (Vi ((p.nh ^ k : Nat) : Int)))) fun ac F=>Y.pv F (X.assign rfl (F.ev 14 (Vi ((p.nh ^ k : Nat) : Int)))) fun ac F=>Y.fin F) ?_;clear F ac;intro ac F
  refine Y.ret ?_
  exact Y.ret0 (v := Vi ((p.nh ^ k : Nat) : Int)) F (Y.r1 F) ⟨by rw [hkm], G⟩
 | true =>
  try rw [h4] at F
  have h4p : ((k : Int) < m) := of_decide_eq_true h4
  have hk2 : k < m := by omega
  have hpw0 := pow_sm hh6 (show k + 1 ≤ 10 by omega)
  rw [Nat.pow_succ] at hpw0
  have hpw : ((p.nh ^ k : Nat) : Int) * (p.nh : Int) ≤ 60466176 := by rw [← Int.natCast_mul]; omega
  have hpv : 0 ≤ ((p.nh ^ k : Nat) : Int) * (p.nh : Int) := by rw [← Int.natCast_mul]; omega
  refine Y.condT (F.ev 7 (.bool true)) ?_
  refine Y.skip ?_
  refine X.thenN ?_
  refine Y.seq ?_
  refine Y.block ?_
  refine Y.lit (by kernel_rfl) ?_
  refine Y.pv4 F (X.move rfl (F.ev 4 (Vi ((p.nh ^ k : Nat) : Int)))) (fun _ F=>X.field rfl (F.ev 1 (Vp bp)) (X.fld Try.underlying27 rfl (Try.siz23 _) rfl rfl)) (fun _ F=>X.load rfl (F.ev 9 (.pointer (some ⟨bp, 1, none⟩))) (X.ld1 (Try.agg23 _) (hC.at 1 rfl))) (fun _ F=>X.len1 Try.underlying23 rfl (F.ev 10 (.slice ha p.nh hc))) ?_;clear F ac;intro ac F
  refine Y.pv2 F (X.binop rfl (F.ev 8 (Vi ((p.nh ^ k : Nat) : Int))) (F.ev 11 (Vi p.nh)) (X.mulI Try.underlying3 rfl (by omega) (by omega))) (fun _ F=>X.assign rfl (F.ev 12 (Vi ((((p.nh ^ k : Nat) : Int) : Int) * p.nh)))) ?_;clear F ac;intro ac F
  refine Y.nil ?_
  replace F : Fr ac 15 [(1, Vp bp), (4, Vi ((((p.nh ^ k : Nat) : Int) : Int) * p.nh)), (5, Vi m), (6, Vi k)] := F.sub _
  refine X.blockN (X.thenN ?_)
  refine Y.lg F [(1, Vp bp), (4, Vi ((((p.nh ^ k : Nat) : Int) : Int) * p.nh)), (5, Vi m), (6, Vi ((k : Int) + 1))] (by
   refine Y.pv F (X.binop rfl (F.ev 6 (Vi k)) (X.kc (Vi 1) rfl) (X.addI Try.underlying3 rfl (by omega) (by omega))) fun ac F=>?_
   refine Y.pv F (X.move rfl (F.ev 13 (Vi ((k : Int) + 1)))) fun ac F=>?_
   exact Y.fin F) ?_;clear F ac;intro ac F
  refine ⟨_, ?_, k + 1, rfl, hO1, by omega, (by rw [Nat.pow_succ, Int.natCast_mul]; exact F.sub _)⟩
  omega
set_option maxRecDepth 100000 in
set_option maxHeartbeats 400000 in
theorem many_any (a : Option Addr) (c : Nat) (E : List LfE) (w : World) (hL : LfAt w a E) (hn : E.length ≤ 1152921504606846975) :
  Calls Try.prog 47 #[.slice a E.length c] w fun e w' => e = .returned (.bool (manyB E)) ∧ Gr w w' := by
 have G := Gr.refl w
 have hl := hL
 refine Y.calls 20 Try.func47 rfl rfl ?_
 intro ac F0
 have F : Fr ac 20 [(0, .slice a E.length c)] := F0.sub _
 clear F0
 refine Y.sg F [(0, .slice a E.length c)] (Y.pv F (X.assign rfl (X.kc (.bool false) rfl)) fun ac F=>Y.fin F) ?_;clear F ac;intro ac F
 refine Y.seq ?_
 refine Y.sg F [(0, .slice a E.length c), (3, Vi 0)] (Y.pv F (X.assign rfl (X.kc (Vi 0) rfl)) fun ac F=>Y.fin F) ?_;clear F ac;intro ac F
 refine Y.block ?_
 refine Y.loop (fun me_ ac wr => ∃ (i : Nat), me_ = E.length - i ∧ Only (fun b => False) w wr ∧ i ≤ E.length ∧ (∀ (j : Nat) (x : LfE), j < i → E[j]? = some x → x.b.xs.length ≤ 30) ∧ Fr ac 20 [(0, .slice a E.length c), (3, Vi i)]) _ ⟨0, rfl, Only.refl _ _, Nat.zero_le _, fun j x h => by omega, F.sub _⟩ ?_
 have hlB1 := hl
 have GB1 := G
 clear F ac
 intro me_ ac w3 hI
 obtain ⟨i, rfl, hO1, hi, hsm, F⟩ := hI
 replace G := GB1.trans (hO1.gr (fun _ _ h => h))
 replace hl := (hL).gr G
 refine Y.seq ?_
 refine Y.sg F [(0, .slice a E.length c), (3, Vi i), (7, .bool (decide ((i : Int) < E.length)))] (Y.pv F (X.move rfl (F.ev 3 (Vi i))) fun ac F=>Y.pv F (X.move rfl (F.ev 0 (.slice a E.length c))) fun ac F=>Y.pv F (X.len1 Try.underlying45 rfl (F.ev 5 (.slice a E.length c))) fun ac F=>Y.pv F (X.binop rfl (F.ev 4 (Vi i)) (F.ev 6 (Vi E.length)) (X.lssI Try.underlying3 rfl)) fun ac F=>Y.fin F) ?_;clear F ac;intro ac F
 cases h4 : decide ((i : Int) < E.length) with
 | false =>
  try rw [h4] at F
  have h4p : ¬ ((i : Int) < E.length) := of_decide_eq_false h4
  have hin : i = E.length := by omega
  refine Y.condF (F.ev 7 (.bool false)) ?_
  refine Y.exit ?_
  refine X.thenX (X.thenX (X.blockX (X.thenN ?_)))
  refine Y.sg F [(2, .bool (decide ((700 : Int) < E.length)))] (Y.pv F (X.move rfl (F.ev 0 (.slice a E.length c))) fun ac F=>Y.pv F (X.len1 Try.underlying45 rfl (F.ev 17 (.slice a E.length c))) fun ac F=>Y.pv F (X.binop rfl (F.ev 18 (Vi E.length)) (X.kc (Vi 700) rfl) (X.gtrI Try.underlying3 rfl)) fun ac F=>Y.pv F (X.assign rfl (F.ev 19 (.bool (decide ((700 : Int) < E.length))))) fun ac F=>Y.fin F) ?_;clear F ac;intro ac F
  refine Y.ret ?_
  exact Y.ret0 (v := .bool (decide ((700 : Int) < E.length))) F (Y.r1 F) ⟨by rw [many_end (fun j x h => hsm j x (by have := (List.getElem?_eq_some_iff.1 h).1; omega) h)], G⟩
 | true =>
  try rw [h4] at F
  have h4p : ((i : Int) < E.length) := of_decide_eq_true h4
  refine Y.condT (F.ev 7 (.bool true)) ?_
  refine Y.skip ?_
  refine X.thenN ?_
  refine Y.seq ?_
  refine Y.block ?_
  refine Y.sl ?_
  refine Y.pv2 F (X.move rfl (F.ev 0 (.slice a E.length c))) (fun _ F=>X.move rfl (F.ev 3 (Vi i))) ?_;clear F ac;intro ac F
  obtain ⟨xf5, hxxf5⟩ : ∃ x, E[i]? = some x := ⟨_, List.getElem?_eq_getElem (by omega)⟩
  obtain ⟨pd5, pe5, pc5, pw5, pI5, -⟩ := hl i xf5 hxxf5
  subst pe5
  have hC : RCells w3 [(pd5.add (i * 2), .slice xf5.b.a xf5.b.xs.length xf5.b.c), (⟨(pd5.add (i * 2)).block, (pd5.add (i * 2)).off + 1, none⟩, Vi xf5.why)] := (RCells.cons pc5 (RCells.cons pw5 (RCells.nil _)))
  clear pc5
  refine Y.pv4 F (X.index rfl (F.ev 10 (.slice (some pd5) E.length c)) (F.ev 11 (Vi i)) (X.idx (k := i) Try.underlying45 (Try.siz49 _) (by omega) (by omega) rfl)) (fun _ F=>X.field rfl (F.ev 12 (.pointer (some (pd5.add (i * 2))))) (X.fld Try.underlying49 rfl (Try.siz34 _) rfl rfl)) (fun _ F=>X.load rfl (F.ev 13 (.pointer (some (pd5.add (i * 2))))) (X.ld1 (Try.agg34 _) (hC.at 0 rfl))) (fun _ F=>X.len1 Try.underlying34 rfl (F.ev 14 (.slice xf5.b.a xf5.b.xs.length xf5.b.c))) ?_;clear F ac;intro ac F
  refine Y.pv F (X.binop rfl (F.ev 15 (Vi xf5.b.xs.length)) (X.kc (Vi 30) rfl) (X.gtrI Try.underlying3 rfl)) ?_;clear F ac;intro ac F
  refine Y.nt F [(0, .slice (some pd5) E.length c), (3, Vi i), (16, .bool (decide ((30 : Int) < xf5.b.xs.length)))] ?_;clear F ac;intro ac F
  cases h6 : decide ((30 : Int) < xf5.b.xs.length) with
  | false =>
   try rw [h6] at F
   have h6p : ¬ ((30 : Int) < xf5.b.xs.length) := of_decide_eq_false h6
   refine Y.condF (F.ev 16 (.bool false)) ?_
   refine Y.skip ?_
   refine X.blockN (X.thenN ?_)
   refine Y.lg F [(0, .slice (some pd5) E.length c), (3, Vi ((i : Int) + 1))] (by
    refine Y.pv F (X.move rfl (F.ev 3 (Vi i))) fun ac F=>?_
    refine Y.pv F (X.binop rfl (F.ev 8 (Vi i)) (X.kc (Vi 1) rfl) (X.addI Try.underlying3 rfl (by omega) (by omega))) fun ac F=>?_
    refine Y.pv F (X.assign rfl (F.ev 9 (Vi ((i : Int) + 1)))) fun ac F=>?_
    exact Y.fin F) ?_;clear F ac;intro ac F
   refine ⟨_, ?_, i + 1, rfl, hO1, by omega, fun j x hj h1 => if e : j = i then by subst e; rw [hxxf5] at h1; injection h1 with h1; subst h1; omega else hsm j x (by omega) h1, F.sub _⟩
   omega
  | true =>
   try rw [h6] at F
   have h6p : ((30 : Int) < xf5.b.xs.length) := of_decide_eq_true h6
   refine Y.condT (F.ev 16 (.bool true)) ?_
   refine Y.sg F [(2, .bool true)] (Y.pv F (X.assign rfl (X.kc (.bool true) rfl)) fun ac F=>Y.fin F) ?_;clear F ac;intro ac F
   refine Y.ret ?_
   refine X.blockR (X.thenR (X.thenR (X.blockR (X.thenR ?_))))
   exact Y.ret0 (v := .bool true) F (Y.r1 F) ⟨by rw [many_yes hxxf5 (by omega)], G⟩
end
section
set_option linter.unusedVariables false
open Go.RowKit Go.Sort

theorem cmpI_anti (x y : Int) : cmpI y x = - cmpI x y := by
  rcases cmpI_v x y with ⟨k1, e1⟩ | ⟨k1, e1⟩ | ⟨k1, e1⟩ <;> rcases cmpI_v y x with ⟨k2, e2⟩ | ⟨k2, e2⟩ | ⟨k2, e2⟩ <;> omega
theorem cmpL_anti : ∀ (x y : List Int), cmpL y x = - cmpL x y := by
  intro x
  induction x with
  | nil => intro y; cases y <;> rfl
  | cons a x ih =>
    intro y
    cases y with
    | nil => rfl
    | cons b y =>
      simp only [cmpL]
      rw [cmpI_anti a b]
      by_cases h : cmpI a b = 0
      · have h2 : - cmpI a b = 0 := by omega
        rw [if_pos h, if_pos h2]; exact ih y
      · have h2 : ¬ - cmpI a b = 0 := by omega
        rw [if_neg h, if_neg h2]
theorem cmpL_self : ∀ xs : List Int, cmpL xs xs = 0 := by
  intro xs
  induction xs with
  | nil => rfl
  | cons x xs ih =>
    have e : cmpI x x = 0 := by unfold cmpI; simp
    simp [cmpL, e, ih]
theorem cmpL_trans : ∀ (x y z : List Int), cmpL x y ≤ 0 → cmpL y z ≤ 0 → cmpL x z ≤ 0 ∧ (cmpL x z = 0 → cmpL x y = 0 ∧ cmpL y z = 0) := by
  intro x
  induction x with
  | nil =>
    intro y z h1 h2
    cases y with
    | nil => exact ⟨h2, fun h => ⟨rfl, h⟩⟩
    | cons b y =>
      cases z with
      | nil => simp [cmpL] at h2
      | cons c z => exact ⟨by simp [cmpL], fun h => by simp [cmpL] at h⟩
  | cons a x ih =>
    intro y z h1 h2
    cases y with
    | nil => simp [cmpL] at h1
    | cons b y =>
      cases z with
      | nil => simp [cmpL] at h2
      | cons c z =>
        simp only [cmpL] at h1 h2 ⊢
        rcases cmpI_v a b with ⟨k1, e1⟩ | ⟨k1, e1⟩ | ⟨k1, e1⟩
        · rcases cmpI_v b c with ⟨k2, e2⟩ | ⟨k2, e2⟩ | ⟨k2, e2⟩
          · have : cmpI a c = -1 := by rcases cmpI_v a c with h | h | h <;> omega
            rw [this]; simp
          · subst k2; rw [e1]; simp
          · rw [e2] at h2; simp at h2
        · subst k1
          rcases cmpI_v a c with ⟨k2, e2⟩ | ⟨k2, e2⟩ | ⟨k2, e2⟩
          · rw [e2]; simp
          · subst k2
            rw [e2] at h1 h2 ⊢
            simp only [if_true] at h1 h2 ⊢
            exact ih y z h1 h2
          · rw [e2] at h2; simp at h2
        · rw [e1] at h1; simp at h1
theorem cmpL_swo {α : Type} (L : α → List Int) : SWO (ltOf fun i j => cmpL (L i) (L j)) where
  irrefl x := by simp [ltOf, cmpL_self]
  trans x y z h1 h2 := by
    simp only [ltOf, decide_eq_true_eq] at *
    have h := cmpL_trans (L x) (L y) (L z) (by omega) (by omega)
    by_cases e : cmpL (L x) (L z) = 0
    · have := h.2 e; omega
    · omega
  ntrans x y z h1 h2 := by
    simp only [ltOf, decide_eq_false_iff_not] at *
    have a1 := cmpL_anti (L x) (L y)
    have a2 := cmpL_anti (L y) (L z)
    have a3 := cmpL_anti (L x) (L z)
    have h := cmpL_trans (L z) (L y) (L x) (by omega) (by omega)
    omega

theorem sort_any {w W : World} {E : List BegE} {a : Option Addr} {c : Nat} (g0 : Gr w W) (hO : OwnR W w.heap.size 34 1 (.slice a E.length c) E.length (rowsV E)) (hI : ∀ x ∈ E, Ints w x.a x.xs.length x.xs) (h0 : 0 < E.length) (hl : E.length ≤ 1000000) :
    Calls Try.prog 89 #[.slice a E.length c, .func (.func 90) #[] #[]] W fun e w' => e = .returned (.tuple #[]) ∧ ∃ (g : Nat) (S : List BegE), a = some ⟨g, 0, none⟩ ∧ S.length = E.length ∧ (S.map BegE.xs).Perm (E.map BegE.xs) ∧ (∀ x ∈ S, x ∈ E) ∧ (∀ i j, i < j → j < (S.map BegE.xs).length → cmpL ((S.map BegE.xs)[i]?.getD []) ((S.map BegE.xs)[j]?.getD []) ≤ 0) ∧ RrAt w' a S ∧ Only (fun b => (Value.slice a E.length c).ownBlock = some b) W w' := by
  obtain ⟨g, Lr, rfl, hBg, hp, hle, hcm, hLl, hLt⟩ := hO.row h0
  have hg : W.heap[g]? = some (.cells Lr.toArray 34 (0, 0)) := hp
  have hgl : g < W.heap.size := hp.lt
  obtain ⟨n, hn⟩ : ∃ n, n = E.length := ⟨_, rfl⟩
  let dE : BegE := ⟨[], none, 0⟩
  let enc : Fin (n + 1) → Value := fun i => .slice (E[i.1]?.getD dE).a (E[i.1]?.getD dE).xs.length (E[i.1]?.getD dE).c
  let cf : Fin (n + 1) → Fin (n + 1) → Int := fun i j => cmpL (E[i.1]?.getD dE).xs (E[j.1]?.getD dE).xs
  let d : Array (Fin (n + 1)) := Array.ofFn (n := n) fun j => ⟨j.1, by omega⟩
  have hds : d.size = E.length := by simp [d, hn]
  have hdj : ∀ j, j < d.size → (d[j]!).1 = j := fun j hj => by
    rw [getElem!_pos d j hj]; simp [d]
  have hIE : ∀ i : Nat, Ints w (E[i]?.getD dE).a (E[i]?.getD dE).xs.length (E[i]?.getD dE).xs := fun i => by
    by_cases hi : i < E.length
    · rw [List.getElem?_eq_getElem hi]; exact hI _ (List.getElem_mem hi)
    · rw [List.getElem?_eq_none (by omega)]; exact Ints.nilZ w
  have hw : ∀ (m : Nat) (os : Array Obj) (dk : Array (Fin (n + 1))), Only (fun b => b = g) W (sortWorld enc W g 0 m dk os) := fun m os dk => by
    refine ⟨rfl, rfl, rfl, by simp [sortWorld], fun b hb hne => ?_⟩
    unfold sortWorld Go.Sort.grow putRow mapBlock Go.Sort.ahead
    simp only
    rw [Array.getElem?_append_left (by simpa using hb), Array.getElem?_modify, if_neg (fun e => hne e.symm)]
  have hgw : ∀ W2, Only (fun b => b = g) W W2 → Gr w W2 := fun W2 h => Y.Only.up g0 h (by omega)
  have hcmp : CmpLays1 Try.prog 90 #[] enc cf g 0 d.size W := fun m os dk _ x y => by
    refine (cmpL_same _ _ _ _ _ _ _ ((hIE x.1).gr (hgw _ (hw m os dk))) ((hIE y.1).gr (hgw _ (hw m os dk)))).mono ?_
    rintro e w' ⟨rfl, rfl⟩
    exact ⟨rfl, 0, #[], by simp [World.drewN]⟩
  have hH : Holds enc W g 0 d := fun j hj => by
    have hj' : j < E.length := by omega
    rw [Nat.zero_add]
    refine ⟨?_, by simp [World.frozen?, hg]⟩
    have h1 := own_cell hO (i := j) (u := enc d[j]!) (by
      show (rowsV E)[j]? = some (.slice (E[(d[j]!).1]?.getD dE).a (E[(d[j]!).1]?.getD dE).xs.length (E[(d[j]!).1]?.getD dE).c)
      rw [hdj j hj, List.getElem?_eq_getElem hj']
      simp [rowsV, hj'])
    exact h1
  have h1 : OneCell enc := fun i => rfl
  have hS := Any.slices_SortFunc (P := Try.prog) Try.sortL enc h1 cf (cmpL_swo fun i : Fin (n + 1) => (E[i.1]?.getD dE).xs) 90 #[] g 0 c d W (Go.Proofs.enters_of Try.func90 (by kernel_rfl) rfl) hcmp hH hgl (by omega)
  rw [hds] at hS
  refine hS.mono ?_
  rintro e w' ⟨rfl, d', q, os, hp, hs, rfl⟩
  obtain ⟨hsz, _, hperm⟩ := hp
  have hsz' : d'.size = E.length := by omega
  have hex : ∀ D : Array (Fin (n + 1)), D.size = E.length → D.extract 0 E.length = D := fun D h => by rw [← h]; simp
  rw [hex d hds, hex d' hsz'] at hperm
  have hmap : d.toList.map (fun i => E[i.1]?.getD dE) = E := by
    apply List.ext_getElem
    · simpa using hds
    · intro j h1 h2
      have hj : j < d.size := by simpa using h1
      have := hdj j hj
      rw [getElem!_pos d j hj] at this
      simp [this, h2]
  have hpS : (d'.toList.map (fun i => E[i.1]?.getD dE)).Perm E := by
    have := hperm.map (fun i => E[i.1]?.getD dE)
    rwa [hmap] at this
  have hget : ∀ j, j < d'.size → (d'.toList.map (fun i => E[i.1]?.getD dE))[j]? = some (E[(d'[j]!).1]?.getD dE) := fun j hj => by
    rw [getElem!_pos d' j hj]; simp [hj]
  have hgm : ∀ j, j < d'.size → ((d'.toList.map (fun i => E[i.1]?.getD dE)).map BegE.xs)[j]?.getD [] = (E[(d'[j]!).1]?.getD dE).xs := fun j hj => by
    have := congrArg (Option.map BegE.xs) (hget j hj)
    rw [← List.getElem?_map] at this
    rw [this]; rfl
  have hG := hgw _ (hw q os d')
  refine ⟨rfl, g, d'.toList.map (fun i => E[i.1]?.getD dE), rfl, by simpa using hsz', hpS.map _, fun x hx => hpS.mem_iff.1 hx, fun i j hij hj => ?_, fun i x hx => ?_, (hw q os d').mono' (fun b e => by subst e; rfl)⟩
  · have hj' : j < d'.size := by simpa using hj
    have := hs i j (Nat.zero_le _) hij (by omega)
    have h2 := of_decide_eq_false this
    simp only [cf] at h2
    rw [hgm i (by omega), hgm j hj']
    have h3 := cmpL_anti (E[(d'[j]!).1]?.getD dE).xs (E[(d'[i]!).1]?.getD dE).xs
    omega
  · have hi : i < d'.size := by have := (List.getElem?_eq_some_iff.1 hx).1; simpa using this
    rw [hget i hi] at hx
    injection hx with hx
    have hSW : SW enc W g 0 d' (sortWorld enc W g 0 q d' os) := ⟨q, os, rfl⟩
    have hh := (hSW.holds hgl hH hsz i hi).1
    rw [Nat.zero_add] at hh
    refine ⟨_, rfl, ?_, ?_⟩
    · rw [addr_add0, hh, ← hx]
    · rw [← hx]; exact (hIE _).gr hG
theorem sort_none (a : Option Addr) (c : Nat) (f : Value) (W : World) : Calls Try.prog 89 #[.slice a 0 c, f] W fun e w' => e = .returned (.tuple #[]) ∧ w' = W :=
  AnyF.slices_SortFunc_none (P := Try.prog) (ρ := Try.sortL_ren) { Try.sortL with } a c f W
theorem sort_all {w W : World} {E : List BegE} {a : Option Addr} {c : Nat} (g0 : Gr w W) (hO : OwnR W w.heap.size 34 1 (.slice a E.length c) E.length (rowsV E)) (hI : ∀ x ∈ E, Ints w x.a x.xs.length x.xs) (hl : E.length ≤ 1000000) :
    Calls Try.prog 89 #[.slice a E.length c, .func (.func 90) #[] #[]] W fun e w' => e = .returned (.tuple #[]) ∧ ∃ S : List BegE, S.length = E.length ∧ (S.map BegE.xs).Perm (E.map BegE.xs) ∧ (∀ x ∈ S, x ∈ E) ∧ (∀ i j, i < j → j < (S.map BegE.xs).length → cmpL ((S.map BegE.xs)[i]?.getD []) ((S.map BegE.xs)[j]?.getD []) ≤ 0) ∧ RrAt w' a S ∧ Only (fun b => (Value.slice a E.length c).ownBlock = some b) W w' := by
  by_cases h0 : 0 < E.length
  · refine (sort_any g0 hO hI h0 hl).mono ?_
    rintro e w' ⟨rfl, g, S, _, h1, h2, h3, h4, h5, h6⟩
    exact ⟨rfl, S, h1, h2, h3, h4, h5, h6⟩
  · have he : E = [] := List.eq_nil_of_length_eq_zero (by omega)
    subst he
    refine (sort_none a c _ W).mono ?_
    rintro e w' ⟨rfl, rfl⟩
    exact ⟨rfl, [], rfl, List.Perm.refl _, fun x hx => hx, fun i j _ hj => by simp at hj, fun i x hx => by simp at hx, Only.refl _ _⟩
end
section
set_option linter.unusedVariables false
open Go.RowKit
def sumE (p : Pb) (E : List LfE) (i : Nat) : Nat := sumP p.nh p.nt ((E.take i).map fun x => x.b.xs)
def okE (p : Pb) (cost : Int) (E : List LfE) (i : Nat) : Prop := ∀ (j : Nat) (x : LfE), j < i → E[j]? = some x → lfB p cost (x.b.xs, x.why) = true
def provB (p : Pb) (cost : Int) (E : List LfE) : Bool := decide (chkE p = 0) && pvsB p cost (stripL E)
section
variable {p : Pb} {cost why : Int} {E : List LfE} {i : Nat} {x : LfE} {xs : List Int}
theorem take_s {α : Type} {l : List α} {i : Nat} {x : α} (h : l[i]? = some x) : l.take (i + 1) = l.take i ++ [x] := by
  obtain ⟨hi, e⟩ := List.getElem?_eq_some_iff.1 h
  rw [List.take_succ_eq_append_getElem hi, e]
theorem sumE_s (h : E[i]? = some x) : sumE p E (i + 1) = sumE p E i + p.nh ^ (p.nt - x.b.xs.length) := by
  unfold sumE
  rw [take_s h, List.map_append, sum_app]
  simp [sumP]
theorem sumE_le (hp : PbOk p) : ∀ i, sumE p E i ≤ i * 60466176 := by
  intro i
  induction i with
  | zero => exact Nat.zero_le _
  | succ i ih =>
    cases h : E[i]? with
    | none =>
      have : E.take (i + 1) = E.take i := by
        rw [List.getElem?_eq_none_iff] at h
        rw [List.take_of_length_le (by omega), List.take_of_length_le h]
      have e : sumE p E (i + 1) = sumE p E i := by unfold sumE; rw [this]
      rw [e]; exact Nat.le_trans ih (Nat.mul_le_mul_right _ (Nat.le_succ i))
    | some x =>
      rw [sumE_s h]
      have := pow_sm hp.h6 (show p.nt - x.b.xs.length ≤ 10 by have := hp.t10; omega)
      omega
theorem okE_s (h : okE p cost E i) (hx : E[i]? = some x) (hl : lfB p cost (x.b.xs, x.why) = true) : okE p cost E (i + 1) := fun j y hj hy => by
  by_cases e : j = i
  · subst e; rw [hx] at hy; injection hy with hy; subst hy; exact hl
  · exact h j y (by omega) hy
theorem lf_1 (h : (p.nt : Int) < xs.length) : lfB p cost (xs, why) = false := by
  unfold lfB; simp only; rw [decide_eq_false (show ¬ xs.length ≤ p.nt by omega)]; rfl
theorem lf_2 (h : hosB p xs = false) : lfB p cost (xs, why) = false := by
  unfold lfB; simp only; rw [h, Bool.and_false]; rfl
theorem lf_3 (hw : why = 1) (h : hopeB p (tim p) xs = false) : lfB p cost (xs, why) = false := by
  subst hw; unfold lfB; simp [h]
theorem lf_4 (h1 : ¬ why = 1) (h2 : ¬ why = 2) : lfB p cost (xs, why) = false := by
  unfold lfB; simp [h1, h2]
theorem lf_5 (h1 : ¬ why = 1) (h2 : ¬ cost ≤ bndV p xs) : lfB p cost (xs, why) = false := by
  unfold lfB; simp [h1, h2]
theorem lf_6 (hw : why = 1) (hl : xs.length ≤ p.nt) (hh : hosB p xs = true) (h : hopeB p (tim p) xs = true) : lfB p cost (xs, why) = true := by
  subst hw; unfold lfB; simp [hl, hh, h]
theorem lf_7 (hw : why = 2) (hl : xs.length ≤ p.nt) (hh : hosB p xs = true) (h : cost ≤ bndV p xs) : lfB p cost (xs, why) = true := by
  subst hw; unfold lfB; simp [hl, hh, h]
theorem prov_0 (h : ¬ chkE p = 0) : provB p cost E = false := by unfold provB; rw [decide_eq_false h]; rfl
theorem prov_no (hx : E[i]? = some x) (h : lfB p cost (x.b.xs, x.why) = false) : provB p cost E = false := by
  unfold provB pvsB
  cases e : (stripL E).all (lfB p cost) with
  | false => rw [Bool.false_and, Bool.and_false]
  | true =>
    have := List.all_eq_true.1 e (x.b.xs, x.why) (List.mem_map.2 ⟨x, List.mem_of_getElem? hx, rfl⟩)
    rw [h] at this; cases this
theorem all_okE (h : okE p cost E E.length) : (stripL E).all (lfB p cost) = true := by
  rw [List.all_eq_true]
  intro y hy
  obtain ⟨x, hx, rfl⟩ := List.mem_map.1 hy
  obtain ⟨i, hi, e⟩ := List.getElem_of_mem hx
  exact h i x hi (by rw [List.getElem?_eq_getElem hi, e])
theorem strip_fst : (stripL E).map (·.1) = E.map fun x => x.b.xs := by simp [stripL, Function.comp_def]
theorem pow_0 {n k : Nat} (h : n ^ k = 0) : n = 0 ∧ 0 < k := by
  cases k with
  | zero => simp at h
  | succ k => exact ⟨Nat.pow_eq_zero.1 h |>.1, Nat.succ_pos k⟩
theorem pow_n0 {n k : Nat} (h : ¬ n ^ k = 0) : ¬ (n = 0 ∧ 0 < k) := fun ⟨h1, h2⟩ => h (by subst h1; exact Nat.zero_pow h2)
theorem prov_z (hc : chkE p = 0) (h : okE p cost E E.length) (h0 : p.nh ^ p.nt = 0) : provB p cost E = true := by
  unfold provB pvsB covB
  rw [decide_eq_true hc, all_okE h, if_pos (pow_0 h0)]; rfl
theorem prov_cov (hc : chkE p = 0) (h : okE p cost E E.length) (h0 : ¬ p.nh ^ p.nt = 0) : provB p cost E = (antiB (E.map fun x => x.b.xs) && decide (sumE p E E.length = p.nh ^ p.nt)) := by
  unfold provB pvsB covB sumE
  rw [decide_eq_true hc, all_okE h, if_neg (pow_n0 h0), strip_fst, List.take_length]; rfl
end
theorem int_eq {a b : Nat} : decide (a = b) = ((a : Int) == (b : Int)) := by
  by_cases h : a = b
  · subst h; simp
  · rw [decide_eq_false h]
    have : ¬ (a : Int) = b := by omega
    simp [this]
/-- the rows behind the sort -/
theorem adj_no {T : List (List Int)} {i : Nat} (hi : i + 1 < T.length) (h : (T[i]?.getD []).isPrefixOf (T[i + 1]?.getD []) = true) : adjB T = false := by
  cases e : adjB T with
  | false => rfl
  | true =>
    have := allN_iff.1 e i (by omega)
    rw [h] at this; cases this
theorem adj_yes {T : List (List Int)} (h : ∀ i, i + 1 < T.length → (T[i]?.getD []).isPrefixOf (T[i + 1]?.getD []) = false) : adjB T = true :=
  allN_iff.2 fun i hi => by rw [h i (by omega)]; rfl
theorem pfx_take {a b : List Int} (h : a.length ≤ b.length) : a.isPrefixOf b = decide (b.take a.length = a) := by
  have key : a.isPrefixOf b = true ↔ b.take a.length = a := by
    rw [List.isPrefixOf_iff_prefix, List.prefix_iff_eq_take]
    exact ⟨fun e => e.symm, fun e => e.symm⟩
  cases e : a.isPrefixOf b with
  | true => exact (decide_eq_true (key.1 e)).symm
  | false => exact (decide_eq_false fun e2 => by rw [key.2 e2] at e; cases e).symm
theorem pfx_short {a b : List Int} (h : b.length < a.length) : a.isPrefixOf b = false := pfx_no fun k => by have := k.length_le; omega
theorem Ints.takeN {W : World} {a : Option Addr} {xs : List Int} {n : Nat} (h : Ints W a xs.length xs) (hn : n ≤ xs.length) : Ints W a (xs.take n).length (xs.take n) := by
  refine ⟨rfl, by rw [List.length_take]; exact Nat.lt_of_le_of_lt (Nat.min_le_right _ _) h.lt, fun j hj => ?_⟩
  have hj2 : j < n := by rw [List.length_take] at hj; omega
  obtain ⟨ad, h1, h2, h3⟩ := h.at (j := j) (by omega)
  exact ⟨ad, h1, h2, by rw [List.getElem?_take_of_lt hj2]; exact h3⟩
end
section
/-- the branches of a test meet again -/
theorem Y.seqJ {P : Program} {ro : Option Nat} {x y : Code} {Q : Exit → Act → World → Prop} {A : Act} {W : World} (J : Act → World → Prop) (h : x.wpIn (FW ro) 0 P (Exit.then J Q) A W) (hJ : ∀ A W, J A W → y.wpIn (FW ro) 0 P Q A W) : (Code.seq x y).wpIn (FW ro) 0 P Q A W :=
  wpIn_seq (wpIn_mono h (fun e a w hq => by
    cases e with
    | normal => exact hJ _ _ hq
    | exit id => exact hq
    | goto l => exact hq
    | ret => exact hq
    | panic ch => exact hq
    | outgrown => exact hq))
end
end Go.Proofs.Ytodedneanlekdaa
