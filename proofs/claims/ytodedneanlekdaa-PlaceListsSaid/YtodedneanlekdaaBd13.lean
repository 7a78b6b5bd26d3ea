/- Several texts of this claim in one file. (1) Contract: sorted. (2) Contracts: the reference's List, Count. (3) Contract: Best. (4) Contract: the look at the example. -/
import Derived.Test.YtodedneanlekdaaBd12
import Derived.Test.YtodedneanlekdaaBd11
import Derived.Test.YtodedneanlekdaaBd4
namespace Go.Proofs.Ytodedneanlekdaa
set_option linter.unusedSimpArgs false
set_option linter.unusedVariables false
section
open Go.RowKit

theorem all_take {xs : List Value} (h : (xs.all fun v => v.oneCell') = true) (k : Nat) : ((xs.take k).all fun v => v.oneCell') = true := List.all_eq_true.2 fun v hv => List.all_eq_true.1 h v (List.mem_of_mem_take hv)
theorem all_drop {xs : List Value} (h : (xs.all fun v => v.oneCell') = true) (k : Nat) : ((xs.drop k).all fun v => v.oneCell') = true := List.all_eq_true.2 fun v hv => List.all_eq_true.1 h v (List.mem_of_mem_drop hv)
set_option maxRecDepth 100000 in
set_option maxHeartbeats 4000000 in
theorem sorted_any (p : Pb) (ta ha ba la : Option Addr) (tc hc bc lc : Nat) (lr : Option Addr) (lc9 : Nat) (E : List BegE) (hp : PbOk p) (w : World) (hP : PbAt w p ta ha ba la tc hc bc lc) (hL : RrAt w lr E) (hE : ∀ x ∈ E, HosOk p x.xs ∧ x.xs.length = p.nt) (hEl : E.length ≤ 1024) :
  Calls Try.prog 67 #[.agg #[.slice ta p.nt tc, .slice ha p.nh hc, .slice ba p.nb bc, .slice la p.nl lc], .slice lr E.length lc9] w fun e w' => ∃ oa oc S, e = .returned (.slice oa S.length oc) ∧ OwnR w' w.heap.size 34 1 (.slice oa S.length oc) S.length (begsV S) ∧ strip S = srtK (keyC p) (E.map BegE.xs) ∧ (∀ y ∈ S, y.2 ∈ E ∧ y.1 = keyC p y.2.xs) ∧ Gr w w' := by
 have G := Gr.refl w
 have hpt := hP.t
 have hph := hP.h
 have hpb := hP.b
 have hpl := hP.l
 have hplen := hP.len
 obtain ⟨hn1, hn2, hn3, hn4⟩ := hplen
 have hcp1 := hpt.cap
 have hcp2 := hph.cap
 have hcp3 := hpb.cap
 have hcp4 := hpl.cap
 have hLr := hL
 refine Y.calls 65 Try.func67 rfl rfl ?_
 intro ac F0
 have F : Fr ac 65 [(0, .agg #[.slice ta p.nt tc, .slice ha p.nh hc, .slice ba p.nb bc, .slice la p.nl lc]), (1, .slice lr E.length lc9)] := F0.sub _
 clear F0
 refine Y.sl ?_
 have hgs3 : w.heap.size ≤ w.heap.size := G.size
 refine Y.pv F (X.box rfl (F.ev 0 (.agg #[.slice ta p.nt tc, .slice ha p.nh hc, .slice ba p.nb bc, .slice la p.nl lc])) X.bx) ?_;clear F ac;intro ac F
 have hgs5 : w.heap.size ≤ w.heap.size := G.size
 have g := Gr.alloc w (.cells #[.slice ta p.nt tc, .slice ha p.nh hc, .slice ba p.nb bc, .slice la p.nl lc] 27)
 have hb := heap_alloc_new w (.cells #[.slice ta p.nt tc, .slice ha p.nh hc, .slice ba p.nb bc, .slice la p.nl lc] 27)
 have hbl : w.heap.size < (w.alloc (.cells #[.slice ta p.nt tc, .slice ha p.nh hc, .slice ba p.nb bc, .slice la p.nl lc] 27)).heap.size := by simp
 have hC2 : RCells (w.alloc (.cells #[.slice ta p.nt tc, .slice ha p.nh hc, .slice ba p.nb bc, .slice la p.nl lc] 27)) [(Ad w.heap.size 0, .slice ta p.nt tc), (Ad w.heap.size 1, .slice ha p.nh hc), (Ad w.heap.size 2, .slice ba p.nb bc), (Ad w.heap.size 3, .slice la p.nl lc)] := (RCells.nil w).box (b := w.heap.size) #[.slice ta p.nt tc, .slice ha p.nh hc, .slice ba p.nb bc, .slice la p.nl lc] 27 rfl
 generalize w.alloc (.cells #[.slice ta p.nt tc, .slice ha p.nh hc, .slice ba p.nb bc, .slice la p.nl lc] 27) = w6 at *
 replace G := G.trans g
 have hC := hC2
 clear hC2
 replace hpt := hpt.gr g
 replace hph := hph.gr g
 replace hpb := hpb.gr g
 replace hpl := hpl.gr g
 replace hLr := hLr.gr g
 have hsz4 := hbl
 clear g hb hbl
 refine Y.pv F (X.assign rfl (X.kc (.slice none 0 0) rfl)) ?_;clear F ac;intro ac F
 refine Y.nt F [(1, .slice lr E.length lc9), (2, Vp w.heap.size)] ?_;clear F ac;intro ac F
 refine Y.sg F [(1, .slice lr E.length lc9), (2, Vp w.heap.size), (5, .slice none 0 0)] (Y.pv F (X.assign rfl (X.kc (.slice none 0 0) rfl)) fun ac F=>Y.fin F) ?_;clear F ac;intro ac F
 refine Y.sg F [(1, .slice lr E.length lc9), (2, Vp w.heap.size), (5, .slice none 0 0), (6, .slice none 0 0)] (Y.pv F (X.assign rfl (X.kc (.slice none 0 0) rfl)) fun ac F=>Y.fin F) ?_;clear F ac;intro ac F
 refine Y.seq ?_
 refine Y.sg F [(1, .slice lr E.length lc9), (2, Vp w.heap.size), (5, .slice none 0 0), (6, .slice none 0 0), (7, Vi 0)] (Y.pv F (X.assign rfl (X.kc (Vi 0) rfl)) fun ac F=>Y.fin F) ?_;clear F ac;intro ac F
 refine Y.block ?_
 have hwl0 : w.heap.size ≤ w6.heap.size := G.size
 refine Y.loop (fun me_ ac wr => ∃ (S : RkL) (ca : Option Addr) (cc : Nat) (oa : Option Addr) (oc i : Nat), me_ = E.length - i ∧ Only (fun b => False) w6 wr ∧ i ≤ E.length ∧ OwnR wr w6.heap.size 3 1 (.slice ca S.length cc) S.length (costsV S) ∧ OwnR wr w6.heap.size 34 1 (.slice oa S.length oc) S.length (begsV S) ∧ strip S = srtK (keyC p) ((E.take i).map BegE.xs) ∧ (∀ y ∈ S, y.2 ∈ E ∧ y.1 = keyC p y.2.xs) ∧ S.length = i ∧ Fr ac 65 [(1, .slice lr E.length lc9), (2, Vp w.heap.size), (5, .slice ca S.length cc), (6, .slice oa S.length oc), (7, Vi i)]) _ ⟨[], none, 0, none, 0, 0, rfl, Only.refl _ _, Nat.zero_le _, OwnR.nil _ _ _ _, OwnR.nil _ _ _ _, rfl, fun y hy => (by simp at hy), rfl, F.sub _⟩ ?_
 have hptB1 := hpt
 have hphB1 := hph
 have hpbB1 := hpb
 have hplB1 := hpl
 have hLrB1 := hLr
 have GB1 := G
 have hCB1 := hC
 clear F ac
 intro me_ ac w7 hI
 obtain ⟨S, ca, cc, oa, oc, i, rfl, hO1, hi, hcO, hoO, hst, hmS, hSl, F⟩ := hI
 replace G := GB1.trans (hO1.gr (fun _ _ h => h))
 replace hpt := (hP.t).gr G
 replace hph := (hP.h).gr G
 replace hpb := (hP.b).gr G
 replace hpl := (hP.l).gr G
 replace hLr := (hL).gr G
 replace hC := (RCells.cons (hO1.cell (hCB1.at 0 rfl) (fun h => h)) (RCells.cons (hO1.cell (hCB1.at 1 rfl) (fun h => h)) (RCells.cons (hO1.cell (hCB1.at 2 rfl) (fun h => h)) (RCells.cons (hO1.cell (hCB1.at 3 rfl) (fun h => h)) (RCells.nil _)))))
 refine Y.seq ?_
 refine Y.sg F [(1, .slice lr E.length lc9), (2, Vp w.heap.size), (5, .slice ca S.length cc), (6, .slice oa S.length oc), (7, Vi i), (13, .bool (decide ((i : Int) < E.length)))] (Y.pv F (X.move rfl (F.ev 7 (Vi i))) fun ac F=>Y.pv F (X.move rfl (F.ev 1 (.slice lr E.length lc9))) fun ac F=>Y.pv F (X.len1 Try.underlying38 rfl (F.ev 11 (.slice lr E.length lc9))) fun ac F=>Y.pv F (X.binop rfl (F.ev 10 (Vi i)) (F.ev 12 (Vi E.length)) (X.lssI Try.underlying3 rfl)) fun ac F=>Y.fin F) ?_;clear F ac;intro ac F
 cases h8 : decide ((i : Int) < E.length) with
 | false =>
  try rw [h8] at F
  have h8p : ¬ ((i : Int) < E.length) := of_decide_eq_false h8
  obtain rfl : i = E.length := by omega
  refine Y.condF (F.ev 13 (.bool false)) ?_
  refine Y.exit ?_
  refine X.thenX (X.thenX (X.blockX (X.thenN ?_)))
  refine Y.sg F [(4, .slice oa S.length oc)] (Y.pv F (X.move rfl (F.ev 6 (.slice oa S.length oc))) fun ac F=>Y.pv F (X.assign rfl (F.ev 64 (.slice oa S.length oc))) fun ac F=>Y.fin F) ?_;clear F ac;intro ac F
  refine Y.ret ?_
  exact Y.ret0 (v := .slice oa S.length oc) F (Y.r1 F) ⟨oa, oc, S, rfl, hoO.lower hwl0, by rw [hst, List.take_length], fun y hy => hmS y hy, G⟩
 | true =>
  try rw [h8] at F
  have h8p : ((i : Int) < E.length) := of_decide_eq_true h8
  refine Y.condT (F.ev 13 (.bool true)) ?_
  refine Y.skip ?_
  refine X.thenN ?_
  refine Y.seq ?_
  refine Y.block ?_
  refine Y.seq ?_
  obtain ⟨xr9, hxxr9⟩ : ∃ x, E[i]? = some x := ⟨_, List.getElem?_eq_getElem (by omega)⟩
  obtain ⟨pd9, pe9, pc9, pI9⟩ := hLr i xr9 hxxr9
  have hmx := hE xr9 (List.mem_of_getElem? hxxr9)
  subst pe9
  replace hC : RCells w7 [(Ad w.heap.size 0, .slice ta p.nt tc), (Ad w.heap.size 1, .slice ha p.nh hc), (Ad w.heap.size 2, .slice ba p.nb bc), (Ad w.heap.size 3, .slice la p.nl lc), (pd9.add i, .slice xr9.a xr9.xs.length xr9.c)] := hC.append ((RCells.cons pc9 (RCells.nil _)))
  clear pc9
  refine Y.region F [some (.agg #[.slice ta p.nt tc, .slice ha p.nh hc, .slice ba p.nb bc, .slice la p.nl lc]), some (.slice (some pd9) E.length lc9), some (Vi i), some (.pointer (some (pd9.add i))), some (.slice xr9.a xr9.xs.length xr9.c), some (Vi (bndV p xr9.xs)), some (Vi (bndV p xr9.xs))] [] rfl ⟨by kernel_rfl, of_decide_eq_true (by kernel_rfl), by kernel_rfl, by kernel_rfl, by kernel_rfl⟩ ⟨?_, ?_, ?_, ?_, ?_, ?_, ?_, trivial⟩ ?_
  ·intro ac done u W Sx hR
   have g : Gr w7 W := hR.1
   exact X.vl (X.load rfl (Sx.ev 2 (Vp w.heap.size)) (X.ldN (Try.agg27 _) (Try.siz27 _) (Y.atz (⟨w.heap.size, 0, none⟩) (Y.AtFrom.cons ((hC.gr g).at 0 rfl) (Y.AtFrom.cons ((hC.gr g).at 1 rfl) (Y.AtFrom.cons ((hC.gr g).at 2 rfl) (Y.AtFrom.cons ((hC.gr g).at 3 rfl) (Y.AtFrom.nil _ _ _)))))))) hR.st0
  ·intro ac done u W Sx hR
   exact X.vl (X.move rfl (Sx.ev 1 (.slice (some pd9) E.length lc9))) hR.st0
  ·intro ac done u W Sx hR
   exact X.vl (X.move rfl (Sx.ev 7 (Vi i))) hR.st0
  ·intro ac done u W Sx hR
   exact X.val (X.w0 rfl) rfl (X.index rfl (Sx.ev 17 (.slice (some pd9) E.length lc9)) (Sx.ev 18 (Vi i)) (X.idx (k := i) Try.underlying38 (Try.siz34 _) (by omega) (by omega) (by rw [Nat.mul_one]))) hR.st0
  ·intro ac done u W Sx hR
   have g : Gr w7 W := hR.1
   exact X.vl (X.load rfl (Sx.ev 19 (.pointer (some (pd9.add i)))) (X.ld1 (Try.agg34 _) ((hC.gr g).at 4 rfl))) hR.st0
  ·intro ac done u W Sx hR
   have g : Gr w7 W := hR.1
   refine X.call (X.w0 rfl) (X.enter (F := 77) rfl (X.kc (.func (.func 77) #[] #[]) rfl) (X.a2 (Sx.ev 16 (.agg #[.slice ta p.nt tc, .slice ha p.nh hc, .slice ba p.nb bc, .slice la p.nl lc])) (Sx.ev 20 (.slice xr9.a xr9.xs.length xr9.c))) (enters_of Try.func77 (by kernel_rfl) rfl _)) (bnd2_any p ta ha ba la tc hc bc lc xr9.a xr9.c xr9.xs W (hP.gr (G.trans g)) (pI9.gr g) hp hmx.1 (Nat.le_of_eq hmx.2)) ?_
   rintro e W2 ⟨rfl, g2⟩
   exact ⟨_, rfl, X.kn rfl, hR.step g2 rfl⟩
  ·intro ac done u W Sx hR
   exact X.vl (X.assign rfl (Sx.ev 21 (Vi (bndV p xr9.xs)))) hR.st0
  intro ac u w10 hs hd hl ho hR
  have g : Gr w7 w10 := hR.1
  replace F : Fr ac 65 [(1, .slice (some pd9) E.length lc9), (2, Vp w.heap.size), (5, .slice ca S.length cc), (6, .slice oa S.length oc), (7, Vi i), (8, Vi (bndV p xr9.xs))] := X.fr hs hd hl _ (by kernel_rfl)
  clear hs hd hl ho hR
  replace G := G.trans g
  replace hC := hC.gr g
  replace hO1 := hO1.thenGr g
  replace hpt := hpt.gr g
  replace hph := hph.gr g
  replace hpb := hpb.gr g
  replace hpl := hpl.gr g
  replace hLr := hLr.gr g
  replace hcO := hcO.gr g
  replace hoO := hoO.gr g
  replace pI9 := pI9.gr g
  clear g
  refine X.thenN ?_
  refine Y.sg F [(1, .slice (some pd9) E.length lc9), (2, Vp w.heap.size), (5, .slice ca S.length cc), (6, .slice oa S.length oc), (7, Vi i), (8, Vi (bndV p xr9.xs)), (9, Vi S.length)] (Y.pv F (X.move rfl (F.ev 6 (.slice oa S.length oc))) fun ac F=>Y.pv F (X.len1 Try.underlying38 rfl (F.ev 22 (.slice oa S.length oc))) fun ac F=>Y.pv F (X.assign rfl (F.ev 23 (Vi S.length))) fun ac F=>Y.fin F) ?_;clear F ac;intro ac F
  refine Y.seq ?_
  refine Y.block ?_
  refine Y.loop (fun me_ ac wr => ∃ (k : Nat), me_ = k + 1 ∧ Only (fun b => False) w10 wr ∧ k ≤ S.length ∧ posR S (0, bndV p xr9.xs) S.length = posR S (0, bndV p xr9.xs) k ∧ Fr ac 65 [(1, .slice (some pd9) E.length lc9), (2, Vp w.heap.size), (5, .slice ca S.length cc), (6, .slice oa S.length oc), (7, Vi i), (8, Vi (bndV p xr9.xs)), (9, Vi k)]) _ ⟨S.length, rfl, Only.refl _ _, Nat.le_refl _, rfl, F.sub _⟩ ?_
  have hptB2 := hpt
  have hphB2 := hph
  have hpbB2 := hpb
  have hplB2 := hpl
  have hLrB2 := hLr
  have hcOB2 := hcO
  have hoOB2 := hoO
  have pI9B2 := pI9
  have GB2 := G
  have hCB2 := hC
  clear F ac
  intro me_ ac w11 hI
  obtain ⟨k, rfl, hO2, hkS, hpp, F⟩ := hI
  replace G := GB2.trans (hO2.gr (fun _ _ h => h))
  replace hpt := (hP.t).gr G
  replace hph := (hP.h).gr G
  replace hpb := (hP.b).gr G
  replace hpl := (hP.l).gr G
  replace hLr := (hL).gr G
  replace hcO := hcOB2.gr (hO2.gr (fun _ _ h => h))
  replace hoO := hoOB2.gr (hO2.gr (fun _ _ h => h))
  replace pI9 := pI9B2.gr (hO2.gr (fun _ _ h => h))
  replace hC := (RCells.cons (hO2.cell (hCB2.at 0 rfl) (fun h => h)) (RCells.cons (hO2.cell (hCB2.at 1 rfl) (fun h => h)) (RCells.cons (hO2.cell (hCB2.at 2 rfl) (fun h => h)) (RCells.cons (hO2.cell (hCB2.at 3 rfl) (fun h => h)) (RCells.cons (hO2.cell (hCB2.at 4 rfl) (fun h => h)) (RCells.nil _))))))
  replace hO1 := hO1.step2 hO2 (fun r e => False.elim e)
  refine Y.seq ?_
  refine Y.sl ?_
  refine Y.pv F (X.move rfl (F.ev 9 (Vi k))) ?_;clear F ac;intro ac F
  refine Y.pv F (X.binop rfl (F.ev 24 (Vi k)) (X.kc (Vi 0) rfl) (X.gtrI Try.underlying3 rfl)) ?_;clear F ac;intro ac F
  refine Y.pv F (X.move rfl (F.ev 25 (.bool (decide ((0 : Int) < k))))) ?_;clear F ac;intro ac F
  cases h12 : decide ((0 : Int) < k) with
  | false =>
   try rw [h12] at F
   have h12p : ¬ ((0 : Int) < k) := of_decide_eq_false h12
   have hpos : posR S (0, bndV p xr9.xs) k = k := by rw [show k = 0 by omega]; rfl
   refine Y.ps F 2 26 false ?_;clear F ac;intro ac F
   refine Y.ps F 2 26 false ?_;clear F ac;intro ac F
   refine Y.ps F 2 26 false ?_;clear F ac;intro ac F
   refine Y.ps F 2 26 false ?_;clear F ac;intro ac F
   refine Y.ps F 2 26 false ?_;clear F ac;intro ac F
   refine Y.ps F 2 26 false ?_;clear F ac;intro ac F
   refine Y.ps F 2 26 false ?_;clear F ac;intro ac F
   refine Y.pv F (X.pickF rfl (F.ev 26 (.bool false)) (X.kc (.bool false) rfl)) ?_;clear F ac;intro ac F
   refine Y.nt F [(1, .slice (some pd9) E.length lc9), (2, Vp w.heap.size), (5, .slice ca S.length cc), (6, .slice oa S.length oc), (7, Vi i), (8, Vi (bndV p xr9.xs)), (9, Vi k), (34, .bool false)] ?_;clear F ac;intro ac F
   refine Y.condF (F.ev 34 (.bool false)) ?_
   refine Y.exit ?_
   refine X.thenX (X.thenX (X.blockX (X.thenN ?_)))
   refine Y.seq ?_
   have hgr10 : w6.heap.size ≤ w11.heap.size := by have h1 := hO1.size; have h2 := hO1.size; omega
   have hO1l := Nat.le_refl w6.heap.size
   have hk9 : posR S (0, bndV p xr9.xs) S.length = k := hpp.trans hpos
   have hst2 := srt_next hst hxxr9 hk9
   obtain ⟨S2, hS2⟩ : ∃ S2, S2 = insAt S k (keyC p xr9.xs, xr9) := ⟨_, rfl⟩
   have hS2l : S2.length = S.length + 1 := by rw [hS2]; exact ins_len hkS
   rw [← hS2] at hst2
   have hmS2 : ∀ y ∈ S2, y.2 ∈ E ∧ y.1 = keyC p y.2.xs := fun y hy => by
    rw [hS2] at hy
    rcases ins_mem hy with rfl | hy
    ·exact ⟨List.mem_of_getElem? hxxr9, rfl⟩
    ·exact hmS y hy
   have hle10 := hcO.le
   have hwG10 : w.heap.size ≤ w11.heap.size := G.size
   have hup : UpV (TiA w11.heap.size 3) ∧ UpV (TiR w11.heap.size 3 k ((costsV S).take k)) ∧ UpV (TiC 3 (Vi (bndV p xr9.xs))) ∧ UpV (TiR w11.heap.size 3 (k + 1) ((costsV S).take k ++ [Vi (bndV p xr9.xs)])) ∧ UpV (TiR w11.heap.size 3 (k + 1 + (S.length - k)) ((costsV S).take k ++ [Vi (bndV p xr9.xs)] ++ (costsV S).drop k)) := ⟨TiA.up _ _, TiR.up _ _ _ _, TiC.up _ _, TiR.up _ _ _ _, TiR.up _ _ _ _⟩
   refine region_xi F [none, some (.slice ca S.length cc), some (Vi k), some (.slice ca k cc), none, some (Vi (bndV p xr9.xs)), none, none, some (.slice ca S.length cc), some (Vi k), some (.slice (if cc = k then (ca : Option Addr) else Option.map (fun x : Addr => x.add (k * 1)) ca) (S.length - k) (cc - k)), none, none] (RC6 w11 0 4 6 7 11 12 (TiA w11.heap.size 3) (TiR w11.heap.size 3 k ((costsV S).take k)) (TiC 3 (Vi (bndV p xr9.xs))) (TiR w11.heap.size 3 (k + 1) ((costsV S).take k ++ [Vi (bndV p xr9.xs)])) (TiR w11.heap.size 3 (k + 1 + (S.length - k)) ((costsV S).take k ++ [Vi (bndV p xr9.xs)] ++ (costsV S).drop k))) rfl ⟨by kernel_rfl, of_decide_eq_true (by kernel_rfl), by kernel_rfl, by kernel_rfl, by kernel_rfl⟩ (fun _ => ⟨RC6.start (Gr.refl _), RC6.start (Gr.drew _)⟩) ⟨?_, ?_, ?_, ?_, ?_, ?_, ?_, ?_, ?_, ?_, ?_, ?_, ?_, trivial⟩ ?_
   ·intro ac done u W Sx hR
    have g : Gr w11 W := hR.g
    exact X.valN (X.w0 rfl) rfl (X.bs rfl X.bs0 (Try.bs34_0 _)) (hR.sa (by decide) hup (Gr.alloc _ _) ⟨_, rfl, ownR_new (heap_alloc_new _ _) g.size⟩)
   ·intro ac done u W Sx hR
    have g : Gr w11 W := hR.g
    exact X.vl (X.move rfl (Sx.ev 5 (.slice ca S.length cc))) (hR.quiet hup (Gr.refl _) (by decide))
   ·intro ac done u W Sx hR
    have g : Gr w11 W := hR.g
    exact X.vl (X.move rfl (Sx.ev 9 (Vi k))) (hR.quiet hup (Gr.refl _) (by decide))
   ·intro ac done u W Sx hR
    have g : Gr w11 W := hR.g
    exact X.vl (Y.slH (k := k) rfl (Sx.ev 38 (.slice ca S.length cc)) (Sx.ev 39 (Vi k)) Try.underlying34 (Try.siz3 _) (by omega) (by omega)) (hR.quiet hup (Gr.refl _) (by decide))
   ·intro ac done u W Sx hR
    have g : Gr w11 W := hR.g
    obtain ⟨a0, e0, hA⟩ := hR.ga (Sx.an 0 (by kernel_rfl)) Sx.nd
    obtain ⟨h1, h2⟩ := (hcO.gr g).headS hkS
    obtain ⟨a9, c9, W2, hrun, hO2, g2⟩ := run_copyN (P := Try.prog) (ts := 34) Try.underlying34 Try.info3 rfl (by decide) hA h1 (by rw [List.length_take, costs_len, Nat.mul_one]; exact Nat.min_eq_left hkS) h2 (all_take (costs_all S) k) (by omega) (by decide) g.size
    exact X.valN (X.w0 rfl) rfl (Y.apz rfl ((Sx.own 0 37 rfl).trans e0) (Sx.ev 40 (.slice ca k cc)) hrun) (hR.sb (by decide) hup g2 ⟨_, _, rfl, hO2⟩)
   ·intro ac done u W Sx hR
    have g : Gr w11 W := hR.g
    exact X.vl (X.move rfl (Sx.ev 8 (Vi (bndV p xr9.xs)))) (hR.quiet hup (Gr.refl _) (by decide))
   ·intro ac done u W Sx hR
    have g : Gr w11 W := hR.g
    exact X.valN (X.w0 rfl) rfl (X.bs rfl (X.b1 (Sx.ev 42 (Vi (bndV p xr9.xs)))) (Try.bs34_1 _ _)) (hR.sc (by decide) hup (Gr.alloc _ _) ⟨_, rfl, heap_alloc_new _ _⟩)
   ·intro ac done u W Sx hR
    have g : Gr w11 W := hR.g
    obtain ⟨b9, c9, e0, hB9⟩ := hR.gb (Sx.an 4 (by kernel_rfl)) Sx.nd
    obtain ⟨g9c, e1, hc9⟩ := hR.gc (Sx.an 6 (by kernel_rfl)) Sx.nd
    refine X.law (X.w0 rfl) (fun K_ hK => wp_pushV Try.underlying34 Try.info3 rfl (by decide) rfl ((Sx.own 4 41 rfl).trans e0) ((Sx.own 6 43 rfl).trans e1) hB9 (m := 1) (news := [Vi (bndV p xr9.xs)]) rfl (cells_at (vs := [Vi (bndV p xr9.xs)]) hc9) rfl (by omega) (by decide) g.size (fun v2 W2 hO2 hon hat => hK v2 W2 (fun x hx => by cases hx) (hR.sd (by decide) (Sx.an 4 (by kernel_rfl)) (Sx.no 11 (by kernel_rfl)) (Sx.no 12 (by kernel_rfl)) (OnlyG g hon (fun b e => (hB9.ge e).1)) ?_)))
    obtain ⟨a8, c8, rfl⟩ := hO2.form
    exact ⟨a8, c8, rfl, hO2⟩
   ·intro ac done u W Sx hR
    have g : Gr w11 W := hR.g
    exact X.vl (X.move rfl (Sx.ev 5 (.slice ca S.length cc))) (hR.quiet hup (Gr.refl _) (by decide))
   ·intro ac done u W Sx hR
    have g : Gr w11 W := hR.g
    exact X.vl (X.move rfl (Sx.ev 9 (Vi k))) (hR.quiet hup (Gr.refl _) (by decide))
   ·intro ac done u W Sx hR
    have g : Gr w11 W := hR.g
    exact X.vl (Y.slL (i := k) rfl (Sx.ev 45 (.slice ca S.length cc)) (Sx.ev 46 (Vi k)) Try.underlying34 (Try.siz3 _) rfl (by omega) (by omega)) (hR.quiet hup (Gr.refl _) (by decide))
   ·intro ac done u W Sx hR
    have g : Gr w11 W := hR.g
    obtain ⟨b9, c9, e0, hB9⟩ := hR.gd (Sx.an 7 (by kernel_rfl)) Sx.nd
    obtain ⟨h1, h2⟩ := (hcO.gr g).tailS hkS
    refine X.law (X.w0 rfl) (fun K_ hK => wp_pushG Try.underlying34 Try.info3 rfl (by decide) rfl ((Sx.own 7 44 rfl).trans e0) (Sx.ev 47 (.slice (if cc = k then (ca : Option Addr) else Option.map (fun x : Addr => x.add (k * 1)) ca) (S.length - k) (cc - k))) hB9 h1 (by rw [List.length_drop, costs_len, Nat.mul_one]) h2 (all_drop (costs_all S) k) (by omega) (by decide) g.size (fun v2 W2 hO2 hon hat => hK v2 W2 (fun x hx => by cases hx) (hR.se (by decide) (Sx.an 4 (by kernel_rfl)) (Sx.an 7 (by kernel_rfl)) (Sx.no 12 (by kernel_rfl)) (OnlyG g hon (fun b e => (hB9.ge e).1)) ?_)))
    obtain ⟨a8, c8, rfl⟩ := hO2.form
    exact ⟨a8, c8, rfl, hO2⟩
   ·intro ac done u W Sx hR
    have g : Gr w11 W := hR.g
    exact X.valN (X.w0 rfl) rfl (X.assign rfl (Sx.own 11 48 rfl)) (hR.sf (by decide) (Sx.an 4 (by kernel_rfl)) (Sx.an 7 (by kernel_rfl)) (Sx.an 11 (by kernel_rfl)))
   rintro ac u w13 hs hd hl_ ho hR
   have g : Gr w11 w13 := hR.g
   obtain ⟨ca2, cc2, e0, hO2⟩ := hR.ge rfl
   have e1 := (hR.gf rfl).trans e0
   rw [show k + 1 + (S.length - k) = S.length + 1 by omega] at hO2 e1
   have e9 : (costsV S).take k ++ [Vi (bndV p xr9.xs)] ++ (costsV S).drop k = costsV S2 := by rw [hS2]; exact costs_ins S k (keyC p xr9.xs, xr9)
   rw [e9] at hO2
   clear hup e9 e0
   replace F : Fr ac 65 [(1, .slice (some pd9) E.length lc9), (2, Vp w.heap.size), (6, .slice oa S.length oc), (7, Vi i), (9, Vi k)] := X.fr hs hd hl_ _ (by kernel_rfl)
   replace F := F.add (ho 12 5 rfl) e1
   clear hs hd hl_ ho hR e1
   replace F : Fr ac 65 [(1, .slice (some pd9) E.length lc9), (2, Vp w.heap.size), (5, .slice ca2 (S.length + 1) cc2), (6, .slice oa S.length oc), (7, Vi i), (9, Vi k)] := F.sub _
   replace G := G.trans g
   replace hC := hC.gr g
   replace hO1 := hO1.thenGr g
   replace hpt := hpt.gr g
   replace hph := hph.gr g
   replace hpb := hpb.gr g
   replace hpl := hpl.gr g
   replace hLr := hLr.gr g
   replace hcO := hcO.gr g
   replace hoO := hoO.gr g
   replace pI9 := pI9.gr g
   clear g
   replace hcO := hO2.lower (Nat.le_trans hO1l hgr10)
   clear hO2
   refine X.thenN ?_
   have hgr11 : w6.heap.size ≤ w13.heap.size := by have h1 := hO1.size; have h2 := hO1.size; omega
   have hO1l := Nat.le_refl w6.heap.size
   have hle11 := hoO.le
   have hwG11 : w.heap.size ≤ w13.heap.size := G.size
   have hup : UpV (TiA w13.heap.size 34) ∧ UpV (TiR w13.heap.size 34 k ((begsV S).take k)) ∧ UpV (TiC 34 (.slice xr9.a xr9.xs.length xr9.c)) ∧ UpV (TiR w13.heap.size 34 (k + 1) ((begsV S).take k ++ [.slice xr9.a xr9.xs.length xr9.c])) ∧ UpV (TiR w13.heap.size 34 (k + 1 + (S.length - k)) ((begsV S).take k ++ [.slice xr9.a xr9.xs.length xr9.c] ++ (begsV S).drop k)) := ⟨TiA.up _ _, TiR.up _ _ _ _, TiC.up _ _, TiR.up _ _ _ _, TiR.up _ _ _ _⟩
   refine region_xi F [none, some (.slice oa S.length oc), some (Vi k), some (.slice oa k oc), none, some (.slice (some pd9) E.length lc9), some (Vi i), some (.pointer (some (pd9.add i))), some (.slice xr9.a xr9.xs.length xr9.c), none, none, some (.slice oa S.length oc), some (Vi k), some (.slice (if oc = k then (oa : Option Addr) else Option.map (fun x : Addr => x.add (k * 1)) oa) (S.length - k) (oc - k)), none, none] (RC6 w13 0 4 9 10 14 15 (TiA w13.heap.size 34) (TiR w13.heap.size 34 k ((begsV S).take k)) (TiC 34 (.slice xr9.a xr9.xs.length xr9.c)) (TiR w13.heap.size 34 (k + 1) ((begsV S).take k ++ [.slice xr9.a xr9.xs.length xr9.c])) (TiR w13.heap.size 34 (k + 1 + (S.length - k)) ((begsV S).take k ++ [.slice xr9.a xr9.xs.length xr9.c] ++ (begsV S).drop k))) rfl ⟨by kernel_rfl, of_decide_eq_true (by kernel_rfl), by kernel_rfl, by kernel_rfl, by kernel_rfl⟩ (fun _ => ⟨RC6.start (Gr.refl _), RC6.start (Gr.drew _)⟩) ⟨?_, ?_, ?_, ?_, ?_, ?_, ?_, ?_, ?_, ?_, ?_, ?_, ?_, ?_, ?_, ?_, trivial⟩ ?_
   ·intro ac done u W Sx hR
    have g : Gr w13 W := hR.g
    exact X.valN (X.w0 rfl) rfl (X.bs rfl X.bs0 (Try.bs38_0 _)) (hR.sa (by decide) hup (Gr.alloc _ _) ⟨_, rfl, ownR_new (heap_alloc_new _ _) g.size⟩)
   ·intro ac done u W Sx hR
    have g : Gr w13 W := hR.g
    exact X.vl (X.move rfl (Sx.ev 6 (.slice oa S.length oc))) (hR.quiet hup (Gr.refl _) (by decide))
   ·intro ac done u W Sx hR
    have g : Gr w13 W := hR.g
    exact X.vl (X.move rfl (Sx.ev 9 (Vi k))) (hR.quiet hup (Gr.refl _) (by decide))
   ·intro ac done u W Sx hR
    have g : Gr w13 W := hR.g
    exact X.vl (Y.slH (k := k) rfl (Sx.ev 50 (.slice oa S.length oc)) (Sx.ev 51 (Vi k)) Try.underlying38 (Try.siz34 _) (by omega) (by omega)) (hR.quiet hup (Gr.refl _) (by decide))
   ·intro ac done u W Sx hR
    have g : Gr w13 W := hR.g
    obtain ⟨a0, e0, hA⟩ := hR.ga (Sx.an 0 (by kernel_rfl)) Sx.nd
    obtain ⟨h1, h2⟩ := (hoO.gr g).headS hkS
    obtain ⟨a9, c9, W2, hrun, hO2, g2⟩ := run_copyN (P := Try.prog) (ts := 38) Try.underlying38 Try.info34 rfl (by decide) hA h1 (by rw [List.length_take, begs_len, Nat.mul_one]; exact Nat.min_eq_left hkS) h2 (all_take (begs_all S) k) (by omega) (by decide) g.size
    exact X.valN (X.w0 rfl) rfl (Y.apz rfl ((Sx.own 0 49 rfl).trans e0) (Sx.ev 52 (.slice oa k oc)) hrun) (hR.sb (by decide) hup g2 ⟨_, _, rfl, hO2⟩)
   ·intro ac done u W Sx hR
    have g : Gr w13 W := hR.g
    exact X.vl (X.move rfl (Sx.ev 1 (.slice (some pd9) E.length lc9))) (hR.quiet hup (Gr.refl _) (by decide))
   ·intro ac done u W Sx hR
    have g : Gr w13 W := hR.g
    exact X.vl (X.move rfl (Sx.ev 7 (Vi i))) (hR.quiet hup (Gr.refl _) (by decide))
   ·intro ac done u W Sx hR
    have g : Gr w13 W := hR.g
    exact X.val (X.w0 rfl) rfl (X.index rfl (Sx.ev 54 (.slice (some pd9) E.length lc9)) (Sx.ev 55 (Vi i)) (X.idx (k := i) Try.underlying38 (Try.siz34 _) (by omega) (by omega) (by rw [Nat.mul_one]))) (hR.quiet hup (Gr.refl _) (by decide))
   ·intro ac done u W Sx hR
    have g : Gr w13 W := hR.g
    exact X.vl (X.load rfl (Sx.ev 56 (.pointer (some (pd9.add i)))) (X.ld1 (Try.agg34 _) ((hC.gr g).at 4 rfl))) (hR.quiet hup (Gr.refl _) (by decide))
   ·intro ac done u W Sx hR
    have g : Gr w13 W := hR.g
    exact X.valN (X.w0 rfl) rfl (X.bs rfl (X.b1 (Sx.ev 57 (.slice xr9.a xr9.xs.length xr9.c))) (Try.bs38_1 _ _ _ _)) (hR.sc (by decide) hup (Gr.alloc _ _) ⟨_, rfl, heap_alloc_new _ _⟩)
   ·intro ac done u W Sx hR
    have g : Gr w13 W := hR.g
    obtain ⟨b9, c9, e0, hB9⟩ := hR.gb (Sx.an 4 (by kernel_rfl)) Sx.nd
    obtain ⟨g9c, e1, hc9⟩ := hR.gc (Sx.an 9 (by kernel_rfl)) Sx.nd
    refine X.law (X.w0 rfl) (fun K_ hK => wp_pushV Try.underlying38 Try.info34 rfl (by decide) rfl ((Sx.own 4 53 rfl).trans e0) ((Sx.own 9 58 rfl).trans e1) hB9 (m := 1) (news := [.slice xr9.a xr9.xs.length xr9.c]) rfl (cells_at (vs := [.slice xr9.a xr9.xs.length xr9.c]) hc9) rfl (by omega) (by decide) g.size (fun v2 W2 hO2 hon hat => hK v2 W2 (fun x hx => by cases hx) (hR.sd (by decide) (Sx.an 4 (by kernel_rfl)) (Sx.no 14 (by kernel_rfl)) (Sx.no 15 (by kernel_rfl)) (OnlyG g hon (fun b e => (hB9.ge e).1)) ?_)))
    obtain ⟨a8, c8, rfl⟩ := hO2.form
    exact ⟨a8, c8, rfl, hO2⟩
   ·intro ac done u W Sx hR
    have g : Gr w13 W := hR.g
    exact X.vl (X.move rfl (Sx.ev 6 (.slice oa S.length oc))) (hR.quiet hup (Gr.refl _) (by decide))
   ·intro ac done u W Sx hR
    have g : Gr w13 W := hR.g
    exact X.vl (X.move rfl (Sx.ev 9 (Vi k))) (hR.quiet hup (Gr.refl _) (by decide))
   ·intro ac done u W Sx hR
    have g : Gr w13 W := hR.g
    exact X.vl (Y.slL (i := k) rfl (Sx.ev 60 (.slice oa S.length oc)) (Sx.ev 61 (Vi k)) Try.underlying38 (Try.siz34 _) rfl (by omega) (by omega)) (hR.quiet hup (Gr.refl _) (by decide))
   ·intro ac done u W Sx hR
    have g : Gr w13 W := hR.g
    obtain ⟨b9, c9, e0, hB9⟩ := hR.gd (Sx.an 10 (by kernel_rfl)) Sx.nd
    obtain ⟨h1, h2⟩ := (hoO.gr g).tailS hkS
    refine X.law (X.w0 rfl) (fun K_ hK => wp_pushG Try.underlying38 Try.info34 rfl (by decide) rfl ((Sx.own 10 59 rfl).trans e0) (Sx.ev 62 (.slice (if oc = k then (oa : Option Addr) else Option.map (fun x : Addr => x.add (k * 1)) oa) (S.length - k) (oc - k))) hB9 h1 (by rw [List.length_drop, begs_len, Nat.mul_one]) h2 (all_drop (begs_all S) k) (by omega) (by decide) g.size (fun v2 W2 hO2 hon hat => hK v2 W2 (fun x hx => by cases hx) (hR.se (by decide) (Sx.an 4 (by kernel_rfl)) (Sx.an 10 (by kernel_rfl)) (Sx.no 15 (by kernel_rfl)) (OnlyG g hon (fun b e => (hB9.ge e).1)) ?_)))
    obtain ⟨a8, c8, rfl⟩ := hO2.form
    exact ⟨a8, c8, rfl, hO2⟩
   ·intro ac done u W Sx hR
    have g : Gr w13 W := hR.g
    exact X.valN (X.w0 rfl) rfl (X.assign rfl (Sx.own 14 63 rfl)) (hR.sf (by decide) (Sx.an 4 (by kernel_rfl)) (Sx.an 10 (by kernel_rfl)) (Sx.an 14 (by kernel_rfl)))
   rintro ac u w14 hs hd hl_ ho hR
   have g : Gr w13 w14 := hR.g
   obtain ⟨oa2, oc2, e0, hO2⟩ := hR.ge rfl
   have e1 := (hR.gf rfl).trans e0
   rw [show k + 1 + (S.length - k) = S.length + 1 by omega] at hO2 e1
   have e9 : (begsV S).take k ++ [.slice xr9.a xr9.xs.length xr9.c] ++ (begsV S).drop k = begsV S2 := by rw [hS2]; exact begs_ins1 S k (keyC p xr9.xs, xr9)
   rw [e9] at hO2
   clear hup e9 e0
   replace F : Fr ac 65 [(1, .slice (some pd9) E.length lc9), (2, Vp w.heap.size), (5, .slice ca2 (S.length + 1) cc2), (7, Vi i)] := X.fr hs hd hl_ _ (by kernel_rfl)
   replace F := F.add (ho 15 6 rfl) e1
   clear hs hd hl_ ho hR e1
   replace F : Fr ac 65 [(1, .slice (some pd9) E.length lc9), (2, Vp w.heap.size), (5, .slice ca2 (S.length + 1) cc2), (6, .slice oa2 (S.length + 1) oc2), (7, Vi i)] := F.sub _
   replace G := G.trans g
   replace hC := hC.gr g
   replace hO1 := hO1.thenGr g
   replace hpt := hpt.gr g
   replace hph := hph.gr g
   replace hpb := hpb.gr g
   replace hpl := hpl.gr g
   replace hLr := hLr.gr g
   replace hcO := hcO.gr g
   replace hoO := hoO.gr g
   replace pI9 := pI9.gr g
   clear g
   replace hoO := hO2.lower (Nat.le_trans hO1l hgr11)
   clear hO2
   refine X.blockN (X.thenN ?_)
   refine Y.lg F [(1, .slice (some pd9) E.length lc9), (2, Vp w.heap.size), (5, .slice ca2 (S.length + 1) cc2), (6, .slice oa2 (S.length + 1) oc2), (7, Vi ((i : Int) + 1))] (by
    refine Y.pv F (X.move rfl (F.ev 7 (Vi i))) fun ac F=>?_
    refine Y.pv F (X.binop rfl (F.ev 14 (Vi i)) (X.kc (Vi 1) rfl) (X.addI Try.underlying3 rfl (by omega) (by omega))) fun ac F=>?_
    refine Y.pv F (X.assign rfl (F.ev 15 (Vi ((i : Int) + 1)))) fun ac F=>?_
    exact Y.fin F) ?_;clear F ac;intro ac F
   refine ⟨_, ?_, S2, ca2, cc2, oa2, oc2, i + 1, rfl, hO1, by omega, by rw [hS2l]; exact hcO, by rw [hS2l]; exact hoO, hst2, hmS2, by omega, (by rw [hS2l]; exact F.sub _)⟩
   omega
  | true =>
   try rw [h12] at F
   have h12p : ((0 : Int) < k) := of_decide_eq_true h12
   obtain ⟨y, hy⟩ : ∃ y, S[k - 1]? = some y := ⟨_, List.getElem?_eq_getElem (by omega)⟩
   have hy0 : y.1.1 = 0 := by rw [(hmS y (List.mem_of_getElem? hy)).2]; rfl
   obtain ⟨g9, Lr, rfl, -⟩ := hcO.row (by omega)
   replace hC : RCells w11 [(Ad w.heap.size 0, .slice ta p.nt tc), (Ad w.heap.size 1, .slice ha p.nh hc), (Ad w.heap.size 2, .slice ba p.nb bc), (Ad w.heap.size 3, .slice la p.nl lc), (pd9.add i, .slice xr9.a xr9.xs.length xr9.c), (⟨g9, (k - 1), none⟩, Vi y.1.2)] := hC.append ((RCells.cons (costs_cell hcO hy) (RCells.nil _)))
   refine Y.pg F 2 26 true (X.move rfl (F.ev 5 (.slice (some ⟨g9, 0, none⟩) S.length cc))) ?_;clear F ac;intro ac F
   refine Y.pg F 2 26 true (X.move rfl (F.ev 9 (Vi k))) ?_;clear F ac;intro ac F
   refine Y.pg F 2 26 true (X.binop rfl (F.ev 28 (Vi k)) (X.kc (Vi 1) rfl) (X.subI Try.underlying3 rfl (by omega) (by omega))) ?_;clear F ac;intro ac F
   refine Y.pg F 2 26 true (X.index rfl (F.ev 27 (.slice (some ⟨g9, 0, none⟩) S.length cc)) (F.ev 29 (Vi ((k : Int) - 1))) (X.idx (k := k - 1) Try.underlying34 (Try.siz3 _) (by omega) (by omega) ((addr_add0 _ _).trans (by rw [Nat.mul_one])))) ?_;clear F ac;intro ac F
   refine Y.pg F 2 26 true (X.load rfl (F.ev 30 (.pointer (some ⟨g9, (k - 1), none⟩))) (X.ld1 (Try.agg3 _) (hC.at 5 rfl))) ?_;clear F ac;intro ac F
   refine Y.pg F 2 26 true (X.move rfl (F.ev 8 (Vi (bndV p xr9.xs)))) ?_;clear F ac;intro ac F
   refine Y.pg F 2 26 true (X.binop rfl (F.ev 31 (Vi y.1.2)) (F.ev 32 (Vi (bndV p xr9.xs))) (X.gtrI Try.underlying3 rfl)) ?_;clear F ac;intro ac F
   refine Y.pv F (X.pickT rfl (F.ev 26 (.bool true)) (F.ev 33 (.bool (decide ((bndV p xr9.xs : Int) < y.1.2))))) ?_;clear F ac;intro ac F
   refine Y.nt F [(1, .slice (some pd9) E.length lc9), (2, Vp w.heap.size), (5, .slice (some ⟨g9, 0, none⟩) S.length cc), (6, .slice oa S.length oc), (7, Vi i), (8, Vi (bndV p xr9.xs)), (9, Vi k), (34, .bool (decide ((bndV p xr9.xs : Int) < y.1.2)))] ?_;clear F ac;intro ac F
   cases h15 : decide ((bndV p xr9.xs : Int) < y.1.2) with
   | false =>
    try rw [h15] at F
    have h15p : ¬ ((bndV p xr9.xs : Int) < y.1.2) := of_decide_eq_false h15
    have hlt9 : ltK (0, bndV p xr9.xs) y.1 = false := (lt_c hy0).trans h15
    have hpos := pos_ge (k := (0, bndV p xr9.xs)) (by omega) hy hlt9
    refine Y.condF (F.ev 34 (.bool false)) ?_
    refine Y.exit ?_
    refine X.thenX (X.thenX (X.blockX (X.thenN ?_)))
    refine Y.seq ?_
    have hgr10 : w6.heap.size ≤ w11.heap.size := by have h1 := hO1.size; have h2 := hO1.size; omega
    have hO1l := Nat.le_refl w6.heap.size
    have hk9 : posR S (0, bndV p xr9.xs) S.length = k := hpp.trans hpos
    have hst2 := srt_next hst hxxr9 hk9
    obtain ⟨S2, hS2⟩ : ∃ S2, S2 = insAt S k (keyC p xr9.xs, xr9) := ⟨_, rfl⟩
    have hS2l : S2.length = S.length + 1 := by rw [hS2]; exact ins_len hkS
    rw [← hS2] at hst2
    have hmS2 : ∀ y ∈ S2, y.2 ∈ E ∧ y.1 = keyC p y.2.xs := fun y hy => by
     rw [hS2] at hy
     rcases ins_mem hy with rfl | hy
     ·exact ⟨List.mem_of_getElem? hxxr9, rfl⟩
     ·exact hmS y hy
    have hle10 := hcO.le
    have hwG10 : w.heap.size ≤ w11.heap.size := G.size
    have hup : UpV (TiA w11.heap.size 3) ∧ UpV (TiR w11.heap.size 3 k ((costsV S).take k)) ∧ UpV (TiC 3 (Vi (bndV p xr9.xs))) ∧ UpV (TiR w11.heap.size 3 (k + 1) ((costsV S).take k ++ [Vi (bndV p xr9.xs)])) ∧ UpV (TiR w11.heap.size 3 (k + 1 + (S.length - k)) ((costsV S).take k ++ [Vi (bndV p xr9.xs)] ++ (costsV S).drop k)) := ⟨TiA.up _ _, TiR.up _ _ _ _, TiC.up _ _, TiR.up _ _ _ _, TiR.up _ _ _ _⟩
    refine region_xi F [none, some (.slice (some ⟨g9, 0, none⟩) S.length cc), some (Vi k), some (.slice (some ⟨g9, 0, none⟩) k cc), none, some (Vi (bndV p xr9.xs)), none, none, some (.slice (some ⟨g9, 0, none⟩) S.length cc), some (Vi k), some (.slice (if cc = k then ((some ⟨g9, 0, none⟩) : Option Addr) else Option.map (fun x : Addr => x.add (k * 1)) (some ⟨g9, 0, none⟩)) (S.length - k) (cc - k)), none, none] (RC6 w11 0 4 6 7 11 12 (TiA w11.heap.size 3) (TiR w11.heap.size 3 k ((costsV S).take k)) (TiC 3 (Vi (bndV p xr9.xs))) (TiR w11.heap.size 3 (k + 1) ((costsV S).take k ++ [Vi (bndV p xr9.xs)])) (TiR w11.heap.size 3 (k + 1 + (S.length - k)) ((costsV S).take k ++ [Vi (bndV p xr9.xs)] ++ (costsV S).drop k))) rfl ⟨by kernel_rfl, of_decide_eq_true (by kernel_rfl), by kernel_rfl, by kernel_rfl, by kernel_rfl⟩ (fun _ => ⟨RC6.start (Gr.refl _), RC6.start (Gr.drew _)⟩) ⟨?_, ?_, ?_, ?_, ?_, ?_, ?_, ?_, ?_, ?_, ?_, ?_, ?_, trivial⟩ ?_
    ·intro ac done u W Sx hR
     have g : Gr w11 W := hR.g
     exact X.valN (X.w0 rfl) rfl (X.bs rfl X.bs0 (Try.bs34_0 _)) (hR.sa (by decide) hup (Gr.alloc _ _) ⟨_, rfl, ownR_new (heap_alloc_new _ _) g.size⟩)
    ·intro ac done u W Sx hR
     have g : Gr w11 W := hR.g
     exact X.vl (X.move rfl (Sx.ev 5 (.slice (some ⟨g9, 0, none⟩) S.length cc))) (hR.quiet hup (Gr.refl _) (by decide))
    ·intro ac done u W Sx hR
     have g : Gr w11 W := hR.g
     exact X.vl (X.move rfl (Sx.ev 9 (Vi k))) (hR.quiet hup (Gr.refl _) (by decide))
    ·intro ac done u W Sx hR
     have g : Gr w11 W := hR.g
     exact X.vl (Y.slH (k := k) rfl (Sx.ev 38 (.slice (some ⟨g9, 0, none⟩) S.length cc)) (Sx.ev 39 (Vi k)) Try.underlying34 (Try.siz3 _) (by omega) (by omega)) (hR.quiet hup (Gr.refl _) (by decide))
    ·intro ac done u W Sx hR
     have g : Gr w11 W := hR.g
     obtain ⟨a0, e0, hA⟩ := hR.ga (Sx.an 0 (by kernel_rfl)) Sx.nd
     obtain ⟨h1, h2⟩ := (hcO.gr g).headS hkS
     obtain ⟨a9, c9, W2, hrun, hO2, g2⟩ := run_copyN (P := Try.prog) (ts := 34) Try.underlying34 Try.info3 rfl (by decide) hA h1 (by rw [List.length_take, costs_len, Nat.mul_one]; exact Nat.min_eq_left hkS) h2 (all_take (costs_all S) k) (by omega) (by decide) g.size
     exact X.valN (X.w0 rfl) rfl (Y.apz rfl ((Sx.own 0 37 rfl).trans e0) (Sx.ev 40 (.slice (some ⟨g9, 0, none⟩) k cc)) hrun) (hR.sb (by decide) hup g2 ⟨_, _, rfl, hO2⟩)
    ·intro ac done u W Sx hR
     have g : Gr w11 W := hR.g
     exact X.vl (X.move rfl (Sx.ev 8 (Vi (bndV p xr9.xs)))) (hR.quiet hup (Gr.refl _) (by decide))
    ·intro ac done u W Sx hR
     have g : Gr w11 W := hR.g
     exact X.valN (X.w0 rfl) rfl (X.bs rfl (X.b1 (Sx.ev 42 (Vi (bndV p xr9.xs)))) (Try.bs34_1 _ _)) (hR.sc (by decide) hup (Gr.alloc _ _) ⟨_, rfl, heap_alloc_new _ _⟩)
    ·intro ac done u W Sx hR
     have g : Gr w11 W := hR.g
     obtain ⟨b9, c9, e0, hB9⟩ := hR.gb (Sx.an 4 (by kernel_rfl)) Sx.nd
     obtain ⟨g9c, e1, hc9⟩ := hR.gc (Sx.an 6 (by kernel_rfl)) Sx.nd
     refine X.law (X.w0 rfl) (fun K_ hK => wp_pushV Try.underlying34 Try.info3 rfl (by decide) rfl ((Sx.own 4 41 rfl).trans e0) ((Sx.own 6 43 rfl).trans e1) hB9 (m := 1) (news := [Vi (bndV p xr9.xs)]) rfl (cells_at (vs := [Vi (bndV p xr9.xs)]) hc9) rfl (by omega) (by decide) g.size (fun v2 W2 hO2 hon hat => hK v2 W2 (fun x hx => by cases hx) (hR.sd (by decide) (Sx.an 4 (by kernel_rfl)) (Sx.no 11 (by kernel_rfl)) (Sx.no 12 (by kernel_rfl)) (OnlyG g hon (fun b e => (hB9.ge e).1)) ?_)))
     obtain ⟨a8, c8, rfl⟩ := hO2.form
     exact ⟨a8, c8, rfl, hO2⟩
    ·intro ac done u W Sx hR
     have g : Gr w11 W := hR.g
     exact X.vl (X.move rfl (Sx.ev 5 (.slice (some ⟨g9, 0, none⟩) S.length cc))) (hR.quiet hup (Gr.refl _) (by decide))
    ·intro ac done u W Sx hR
     have g : Gr w11 W := hR.g
     exact X.vl (X.move rfl (Sx.ev 9 (Vi k))) (hR.quiet hup (Gr.refl _) (by decide))
    ·intro ac done u W Sx hR
     have g : Gr w11 W := hR.g
     exact X.vl (Y.slL (i := k) rfl (Sx.ev 45 (.slice (some ⟨g9, 0, none⟩) S.length cc)) (Sx.ev 46 (Vi k)) Try.underlying34 (Try.siz3 _) rfl (by omega) (by omega)) (hR.quiet hup (Gr.refl _) (by decide))
    ·intro ac done u W Sx hR
     have g : Gr w11 W := hR.g
     obtain ⟨b9, c9, e0, hB9⟩ := hR.gd (Sx.an 7 (by kernel_rfl)) Sx.nd
     obtain ⟨h1, h2⟩ := (hcO.gr g).tailS hkS
     refine X.law (X.w0 rfl) (fun K_ hK => wp_pushG Try.underlying34 Try.info3 rfl (by decide) rfl ((Sx.own 7 44 rfl).trans e0) (Sx.ev 47 (.slice (if cc = k then ((some ⟨g9, 0, none⟩) : Option Addr) else Option.map (fun x : Addr => x.add (k * 1)) (some ⟨g9, 0, none⟩)) (S.length - k) (cc - k))) hB9 h1 (by rw [List.length_drop, costs_len, Nat.mul_one]) h2 (all_drop (costs_all S) k) (by omega) (by decide) g.size (fun v2 W2 hO2 hon hat => hK v2 W2 (fun x hx => by cases hx) (hR.se (by decide) (Sx.an 4 (by kernel_rfl)) (Sx.an 7 (by kernel_rfl)) (Sx.no 12 (by kernel_rfl)) (OnlyG g hon (fun b e => (hB9.ge e).1)) ?_)))
     obtain ⟨a8, c8, rfl⟩ := hO2.form
     exact ⟨a8, c8, rfl, hO2⟩
    ·intro ac done u W Sx hR
     have g : Gr w11 W := hR.g
     exact X.valN (X.w0 rfl) rfl (X.assign rfl (Sx.own 11 48 rfl)) (hR.sf (by decide) (Sx.an 4 (by kernel_rfl)) (Sx.an 7 (by kernel_rfl)) (Sx.an 11 (by kernel_rfl)))
    rintro ac u w16 hs hd hl_ ho hR
    have g : Gr w11 w16 := hR.g
    obtain ⟨ca2, cc2, e0, hO2⟩ := hR.ge rfl
    have e1 := (hR.gf rfl).trans e0
    rw [show k + 1 + (S.length - k) = S.length + 1 by omega] at hO2 e1
    have e9 : (costsV S).take k ++ [Vi (bndV p xr9.xs)] ++ (costsV S).drop k = costsV S2 := by rw [hS2]; exact costs_ins S k (keyC p xr9.xs, xr9)
    rw [e9] at hO2
    clear hup e9 e0
    replace F : Fr ac 65 [(1, .slice (some pd9) E.length lc9), (2, Vp w.heap.size), (6, .slice oa S.length oc), (7, Vi i), (9, Vi k)] := X.fr hs hd hl_ _ (by kernel_rfl)
    replace F := F.add (ho 12 5 rfl) e1
    clear hs hd hl_ ho hR e1
    replace F : Fr ac 65 [(1, .slice (some pd9) E.length lc9), (2, Vp w.heap.size), (5, .slice ca2 (S.length + 1) cc2), (6, .slice oa S.length oc), (7, Vi i), (9, Vi k)] := F.sub _
    replace G := G.trans g
    replace hC := hC.gr g
    replace hO1 := hO1.thenGr g
    replace hpt := hpt.gr g
    replace hph := hph.gr g
    replace hpb := hpb.gr g
    replace hpl := hpl.gr g
    replace hLr := hLr.gr g
    replace hcO := hcO.gr g
    replace hoO := hoO.gr g
    replace pI9 := pI9.gr g
    clear g
    replace hcO := hO2.lower (Nat.le_trans hO1l hgr10)
    clear hO2
    refine X.thenN ?_
    have hgr11 : w6.heap.size ≤ w16.heap.size := by have h1 := hO1.size; have h2 := hO1.size; omega
    have hO1l := Nat.le_refl w6.heap.size
    have hle11 := hoO.le
    have hwG11 : w.heap.size ≤ w16.heap.size := G.size
    have hup : UpV (TiA w16.heap.size 34) ∧ UpV (TiR w16.heap.size 34 k ((begsV S).take k)) ∧ UpV (TiC 34 (.slice xr9.a xr9.xs.length xr9.c)) ∧ UpV (TiR w16.heap.size 34 (k + 1) ((begsV S).take k ++ [.slice xr9.a xr9.xs.length xr9.c])) ∧ UpV (TiR w16.heap.size 34 (k + 1 + (S.length - k)) ((begsV S).take k ++ [.slice xr9.a xr9.xs.length xr9.c] ++ (begsV S).drop k)) := ⟨TiA.up _ _, TiR.up _ _ _ _, TiC.up _ _, TiR.up _ _ _ _, TiR.up _ _ _ _⟩
    refine region_xi F [none, some (.slice oa S.length oc), some (Vi k), some (.slice oa k oc), none, some (.slice (some pd9) E.length lc9), some (Vi i), some (.pointer (some (pd9.add i))), some (.slice xr9.a xr9.xs.length xr9.c), none, none, some (.slice oa S.length oc), some (Vi k), some (.slice (if oc = k then (oa : Option Addr) else Option.map (fun x : Addr => x.add (k * 1)) oa) (S.length - k) (oc - k)), none, none] (RC6 w16 0 4 9 10 14 15 (TiA w16.heap.size 34) (TiR w16.heap.size 34 k ((begsV S).take k)) (TiC 34 (.slice xr9.a xr9.xs.length xr9.c)) (TiR w16.heap.size 34 (k + 1) ((begsV S).take k ++ [.slice xr9.a xr9.xs.length xr9.c])) (TiR w16.heap.size 34 (k + 1 + (S.length - k)) ((begsV S).take k ++ [.slice xr9.a xr9.xs.length xr9.c] ++ (begsV S).drop k))) rfl ⟨by kernel_rfl, of_decide_eq_true (by kernel_rfl), by kernel_rfl, by kernel_rfl, by kernel_rfl⟩ (fun _ => ⟨RC6.start (Gr.refl _), RC6.start (Gr.drew _)⟩) ⟨?_, ?_, ?_, ?_, ?_, ?_, ?_, ?_, ?_, ?_, ?_, ?_, ?_, ?_, ?_, ?_, trivial⟩ ?_
    ·intro ac done u W Sx hR
     have g : Gr w16 W := hR.g
     exact X.valN (X.w0 rfl) rfl (X.bs rfl X.bs0 (Try.bs38_0 _)) (hR.sa (by decide) hup (Gr.alloc _ _) ⟨_, rfl, ownR_new (heap_alloc_new _ _) g.size⟩)
    ·intro ac done u W Sx hR
     have g : Gr w16 W := hR.g
     exact X.vl (X.move rfl (Sx.ev 6 (.slice oa S.length oc))) (hR.quiet hup (Gr.refl _) (by decide))
    ·intro ac done u W Sx hR
     have g : Gr w16 W := hR.g
     exact X.vl (X.move rfl (Sx.ev 9 (Vi k))) (hR.quiet hup (Gr.refl _) (by decide))
    ·intro ac done u W Sx hR
     have g : Gr w16 W := hR.g
     exact X.vl (Y.slH (k := k) rfl (Sx.ev 50 (.slice oa S.length oc)) (Sx.ev 51 (Vi k)) Try.underlying38 (Try.siz34 _) (by omega) (by omega)) (hR.quiet hup (Gr.refl _) (by decide))
    ·intro ac done u W Sx hR
     have g : Gr w16 W := hR.g
     obtain ⟨a0, e0, hA⟩ := hR.ga (Sx.an 0 (by kernel_rfl)) Sx.nd
     obtain ⟨h1, h2⟩ := (hoO.gr g).headS hkS
     obtain ⟨a9, c9, W2, hrun, hO2, g2⟩ := run_copyN (P := Try.prog) (ts := 38) Try.underlying38 Try.info34 rfl (by decide) hA h1 (by rw [List.length_take, begs_len, Nat.mul_one]; exact Nat.min_eq_left hkS) h2 (all_take (begs_all S) k) (by omega) (by decide) g.size
     exact X.valN (X.w0 rfl) rfl (Y.apz rfl ((Sx.own 0 49 rfl).trans e0) (Sx.ev 52 (.slice oa k oc)) hrun) (hR.sb (by decide) hup g2 ⟨_, _, rfl, hO2⟩)
    ·intro ac done u W Sx hR
     have g : Gr w16 W := hR.g
     exact X.vl (X.move rfl (Sx.ev 1 (.slice (some pd9) E.length lc9))) (hR.quiet hup (Gr.refl _) (by decide))
    ·intro ac done u W Sx hR
     have g : Gr w16 W := hR.g
     exact X.vl (X.move rfl (Sx.ev 7 (Vi i))) (hR.quiet hup (Gr.refl _) (by decide))
    ·intro ac done u W Sx hR
     have g : Gr w16 W := hR.g
     exact X.val (X.w0 rfl) rfl (X.index rfl (Sx.ev 54 (.slice (some pd9) E.length lc9)) (Sx.ev 55 (Vi i)) (X.idx (k := i) Try.underlying38 (Try.siz34 _) (by omega) (by omega) (by rw [Nat.mul_one]))) (hR.quiet hup (Gr.refl _) (by decide))
    ·intro ac done u W Sx hR
     have g : Gr w16 W := hR.g
     exact X.vl (X.load rfl (Sx.ev 56 (.pointer (some (pd9.add i)))) (X.ld1 (Try.agg34 _) ((hC.gr g).at 4 rfl))) (hR.quiet hup (Gr.refl _) (by decide))
    ·intro ac done u W Sx hR
     have g : Gr w16 W := hR.g
     exact X.valN (X.w0 rfl) rfl (X.bs rfl (X.b1 (Sx.ev 57 (.slice xr9.a xr9.xs.length xr9.c))) (Try.bs38_1 _ _ _ _)) (hR.sc (by decide) hup (Gr.alloc _ _) ⟨_, rfl, heap_alloc_new _ _⟩)
    ·intro ac done u W Sx hR
     have g : Gr w16 W := hR.g
     obtain ⟨b9, c9, e0, hB9⟩ := hR.gb (Sx.an 4 (by kernel_rfl)) Sx.nd
     obtain ⟨g9c, e1, hc9⟩ := hR.gc (Sx.an 9 (by kernel_rfl)) Sx.nd
     refine X.law (X.w0 rfl) (fun K_ hK => wp_pushV Try.underlying38 Try.info34 rfl (by decide) rfl ((Sx.own 4 53 rfl).trans e0) ((Sx.own 9 58 rfl).trans e1) hB9 (m := 1) (news := [.slice xr9.a xr9.xs.length xr9.c]) rfl (cells_at (vs := [.slice xr9.a xr9.xs.length xr9.c]) hc9) rfl (by omega) (by decide) g.size (fun v2 W2 hO2 hon hat => hK v2 W2 (fun x hx => by cases hx) (hR.sd (by decide) (Sx.an 4 (by kernel_rfl)) (Sx.no 14 (by kernel_rfl)) (Sx.no 15 (by kernel_rfl)) (OnlyG g hon (fun b e => (hB9.ge e).1)) ?_)))
     obtain ⟨a8, c8, rfl⟩ := hO2.form
     exact ⟨a8, c8, rfl, hO2⟩
    ·intro ac done u W Sx hR
     have g : Gr w16 W := hR.g
     exact X.vl (X.move rfl (Sx.ev 6 (.slice oa S.length oc))) (hR.quiet hup (Gr.refl _) (by decide))
    ·intro ac done u W Sx hR
     have g : Gr w16 W := hR.g
     exact X.vl (X.move rfl (Sx.ev 9 (Vi k))) (hR.quiet hup (Gr.refl _) (by decide))
    ·intro ac done u W Sx hR
     have g : Gr w16 W := hR.g
     exact X.vl (Y.slL (i := k) rfl (Sx.ev 60 (.slice oa S.length oc)) (Sx.ev 61 (Vi k)) Try.underlying38 (Try.siz34 _) rfl (by omega) (by omega)) (hR.quiet hup (Gr.refl _) (by decide))
    ·intro ac done u W Sx hR
     have g : Gr w16 W := hR.g
     obtain ⟨b9, c9, e0, hB9⟩ := hR.gd (Sx.an 10 (by kernel_rfl)) Sx.nd
     obtain ⟨h1, h2⟩ := (hoO.gr g).tailS hkS
     refine X.law (X.w0 rfl) (fun K_ hK => wp_pushG Try.underlying38 Try.info34 rfl (by decide) rfl ((Sx.own 10 59 rfl).trans e0) (Sx.ev 62 (.slice (if oc = k then (oa : Option Addr) else Option.map (fun x : Addr => x.add (k * 1)) oa) (S.length - k) (oc - k))) hB9 h1 (by rw [List.length_drop, begs_len, Nat.mul_one]) h2 (all_drop (begs_all S) k) (by omega) (by decide) g.size (fun v2 W2 hO2 hon hat => hK v2 W2 (fun x hx => by cases hx) (hR.se (by decide) (Sx.an 4 (by kernel_rfl)) (Sx.an 10 (by kernel_rfl)) (Sx.no 15 (by kernel_rfl)) (OnlyG g hon (fun b e => (hB9.ge e).1)) ?_)))
     obtain ⟨a8, c8, rfl⟩ := hO2.form
     exact ⟨a8, c8, rfl, hO2⟩
    ·intro ac done u W Sx hR
     have g : Gr w16 W := hR.g
     exact X.valN (X.w0 rfl) rfl (X.assign rfl (Sx.own 14 63 rfl)) (hR.sf (by decide) (Sx.an 4 (by kernel_rfl)) (Sx.an 10 (by kernel_rfl)) (Sx.an 14 (by kernel_rfl)))
    rintro ac u w17 hs hd hl_ ho hR
    have g : Gr w16 w17 := hR.g
    obtain ⟨oa2, oc2, e0, hO2⟩ := hR.ge rfl
    have e1 := (hR.gf rfl).trans e0
    rw [show k + 1 + (S.length - k) = S.length + 1 by omega] at hO2 e1
    have e9 : (begsV S).take k ++ [.slice xr9.a xr9.xs.length xr9.c] ++ (begsV S).drop k = begsV S2 := by rw [hS2]; exact begs_ins1 S k (keyC p xr9.xs, xr9)
    rw [e9] at hO2
    clear hup e9 e0
    replace F : Fr ac 65 [(1, .slice (some pd9) E.length lc9), (2, Vp w.heap.size), (5, .slice ca2 (S.length + 1) cc2), (7, Vi i)] := X.fr hs hd hl_ _ (by kernel_rfl)
    replace F := F.add (ho 15 6 rfl) e1
    clear hs hd hl_ ho hR e1
    replace F : Fr ac 65 [(1, .slice (some pd9) E.length lc9), (2, Vp w.heap.size), (5, .slice ca2 (S.length + 1) cc2), (6, .slice oa2 (S.length + 1) oc2), (7, Vi i)] := F.sub _
    replace G := G.trans g
    replace hC := hC.gr g
    replace hO1 := hO1.thenGr g
    replace hpt := hpt.gr g
    replace hph := hph.gr g
    replace hpb := hpb.gr g
    replace hpl := hpl.gr g
    replace hLr := hLr.gr g
    replace hcO := hcO.gr g
    replace hoO := hoO.gr g
    replace pI9 := pI9.gr g
    clear g
    replace hoO := hO2.lower (Nat.le_trans hO1l hgr11)
    clear hO2
    refine X.blockN (X.thenN ?_)
    refine Y.lg F [(1, .slice (some pd9) E.length lc9), (2, Vp w.heap.size), (5, .slice ca2 (S.length + 1) cc2), (6, .slice oa2 (S.length + 1) oc2), (7, Vi ((i : Int) + 1))] (by
     refine Y.pv F (X.move rfl (F.ev 7 (Vi i))) fun ac F=>?_
     refine Y.pv F (X.binop rfl (F.ev 14 (Vi i)) (X.kc (Vi 1) rfl) (X.addI Try.underlying3 rfl (by omega) (by omega))) fun ac F=>?_
     refine Y.pv F (X.assign rfl (F.ev 15 (Vi ((i : Int) + 1)))) fun ac F=>?_
     exact Y.fin F) ?_;clear F ac;intro ac F
    refine ⟨_, ?_, S2, ca2, cc2, oa2, oc2, i + 1, rfl, hO1, by omega, by rw [hS2l]; exact hcO, by rw [hS2l]; exact hoO, hst2, hmS2, by omega, (by rw [hS2l]; exact F.sub _)⟩
    omega
   | true =>
    try rw [h15] at F
    have h15p : ((bndV p xr9.xs : Int) < y.1.2) := of_decide_eq_true h15
    have hlt9 : ltK (0, bndV p xr9.xs) y.1 = true := (lt_c hy0).trans h15
    have hpn := pos_lt (k := (0, bndV p xr9.xs)) (by omega) hy hlt9
    refine Y.condT (F.ev 34 (.bool true)) ?_
    refine Y.skip ?_
    refine X.thenN ?_
    refine Y.block ?_
    refine Y.lit (by kernel_rfl) ?_
    refine Y.pv F (X.move rfl (F.ev 9 (Vi k))) ?_;clear F ac;intro ac F
    refine Y.pv F (X.binop rfl (F.ev 35 (Vi k)) (X.kc (Vi 1) rfl) (X.subI Try.underlying3 rfl (by omega) (by omega))) ?_;clear F ac;intro ac F
    refine Y.pv F (X.assign rfl (F.ev 36 (Vi ((k : Int) - 1)))) ?_;clear F ac;intro ac F
    refine Y.nil ?_
    replace F : Fr ac 65 [(1, .slice (some pd9) E.length lc9), (2, Vp w.heap.size), (5, .slice (some ⟨g9, 0, none⟩) S.length cc), (6, .slice oa S.length oc), (7, Vi i), (8, Vi (bndV p xr9.xs)), (9, Vi ((k : Int) - 1))] := F.sub _
    refine X.blockN (X.thenN ?_)
    refine ⟨_, ?_, k - 1, rfl, hO2, by omega, hpp.trans hpn, (by rw [show ((k - 1 : Nat) : Int) = (k : Int) - 1 by omega]; exact F.sub _)⟩
    omega
end
section
open Go.RowKit

theorem RrAt.nil (W : World) (a : Option Addr) : RrAt W a [] := fun i x hx => by simp at hx
theorem take_min {α : Type} {l : List α} {m : Int} {n : Nat} (h : (n : Int) = min m l.length ∧ 0 ≤ m) : l.take n = l.take m.toNat := by
  by_cases e : m ≤ l.length
  · rw [show n = m.toNat by omega]
  · rw [List.take_of_length_le (by omega), List.take_of_length_le (by omega)]
theorem all_mp (p : Pb) (ta ha ba la : Option Addr) (tc hc bc lc : Nat) (hp : PbOk p) (hsm : p.nt ≤ 5 ∧ p.nh ≤ 4) (w : World) (hP : PbAt w p ta ha ba la tc hc bc lc) :
    Calls Try.prog 68 #[.agg #[.slice ta p.nt tc, .slice ha p.nh hc, .slice ba p.nb bc, .slice la p.nl lc], .slice none 0 0] w fun e w' => ∃ v, e = .returned v ∧ (∃ a c E, v = .slice a (List.length E) c ∧ RrAt w' a E ∧ E.map BegE.xs = allP p ∧ E.length ≤ c ∧ E.length ≤ 1024) ∧ Gr w w' :=
  (all_any p ta ha ba la tc hc bc lc hp hsm p.nt [] none 0 w hP (by simp) HosOk.nil (Ints.nilZ _) (fun ad e => by cases e)).mono fun e w' ⟨v, E, he, hRw, hm, _, g⟩ => by
    obtain ⟨oa, oc, rfl⟩ := hRw.form
    refine ⟨_, he, ⟨oa, oc, E, rfl, hRw.rr, hm, hRw.o.le, ?_⟩, g⟩
    have h1 := congrArg List.length hm
    rw [List.length_map] at h1
    have h2 := allF_len (hope := hopeB p (tim p)) hsm.2 p.nt []
    have h3 := pow_le hsm.1
    omega
theorem srt_mp (p : Pb) (ta ha ba la : Option Addr) (tc hc bc lc : Nat) (lr : Option Addr) (lc9 : Nat) (E : List BegE) (hp : PbOk p) (w : World) (hP : PbAt w p ta ha ba la tc hc bc lc) (hr : RrAt w lr E) (hm : E.map BegE.xs = allP p) (hl : E.length ≤ 1024) :
    Calls Try.prog 67 #[.agg #[.slice ta p.nt tc, .slice ha p.nh hc, .slice ba p.nb bc, .slice la p.nl lc], .slice lr E.length lc9] w fun e w' => ∃ v, e = .returned v ∧ (∃ a c E, v = .slice a (List.length E) c ∧ RrAt w' a E ∧ E.map BegE.xs = sortedL p ∧ E.length ≤ c ∧ E.length ≤ 1024) ∧ Gr w w' :=
  (sorted_any p ta ha ba la tc hc bc lc lr lc9 E hp w hP hr (fun x hx => by
    have h1 := mem_allP (p := p) (x := x.xs) (by rw [← hm]; exact List.mem_map_of_mem hx)
    exact ⟨h1.1, h1.2.1⟩) hl).mono fun e w' ⟨oa, oc, S, he, hO, hst, hmS, g⟩ => by
    have hSl : S.length = E.length := by
      have h1 := congrArg List.length hst
      rw [strip_len, srtK_len, List.length_map] at h1; exact h1
    refine ⟨_, he, ⟨oa, oc, S.map (·.2), by rw [List.length_map], rr_own hO (fun y hy => ?_), by rw [strip_xs, hst, hm]; rfl, by rw [List.length_map]; exact hO.le, by rw [List.length_map]; omega⟩, g⟩
    obtain ⟨i, hi⟩ := List.getElem?_of_mem (hmS y hy).1
    obtain ⟨_, _, _, h3⟩ := hr i _ hi
    exact h3.gr g
theorem rows_yes {E D : List BegE} (hl : E.length = D.length) (h : ∀ (j : Nat) (x y : BegE), E[j]? = some x → D[j]? = some y → x.xs = y.xs) : decide (E.map BegE.xs = D.map BegE.xs) = true := by
  refine decide_eq_true (List.ext_getElem (by simpa using hl) fun i h1 h2 => ?_)
  simp only [List.length_map] at h1 h2
  have := h i E[i] D[i] (List.getElem?_eq_getElem h1) (List.getElem?_eq_getElem h2)
  simpa using this
theorem rows_no {E D : List BegE} {j : Nat} {x y : BegE} (h1 : E[j]? = some x) (h2 : D[j]? = some y) (h : ¬ x.xs = y.xs) : decide (E.map BegE.xs = D.map BegE.xs) = false :=
  decide_eq_false fun e => h (by
    have h3 := congrArg (fun l => l[j]?) e
    simp only [List.getElem?_map, h1, h2, Option.map_some, Option.some.injEq] at h3
    exact h3)
theorem within_iff {n a b : Int} : withinB n a b = true ↔ a ≤ n ∧ n ≤ b := by unfold withinB; simp
theorem cnt_h {p : Pb} {s : Int} {xs : List Int} (h : hopeB p (tim p) xs = true) : cntF p s xs = (s, true, true) := by simp [cntF, h]
theorem cnt_n {p : Pb} {s : Int} {xs : List Int} (h : ¬ xs.length = p.nt) : cntF p s xs = (s, true, true) := by simp [cntF, h]
theorem cnt_p {p : Pb} {s : Int} {xs : List Int} (h : hopeB p (tim p) xs = false) (k : xs.length = p.nt) : cntF p s xs = (s + 1, true, true) := by simp [cntF, h, k]
set_option maxRecDepth 100000 in
set_option maxHeartbeats 2000000 in
theorem listR_any (p : Pb) (ta ha ba la : Option Addr) (tc hc bc lc : Nat) (most : Int) (hsm : chkE p = 0 → p.nt ≤ 5 ∧ p.nh ≤ 4) (w : World) (hP : PbAt w p ta ha ba la tc hc bc lc) :
  Calls Try.prog 26 #[.agg #[.slice ta p.nt tc, .slice ha p.nh hc, .slice ba p.nb bc, .slice la p.nl lc], Vi most] w fun e w' => ∃ a c E, e = .returned (.tuple #[.slice a (List.length E) c, Vi (listE p most)]) ∧ RrAt w' a E ∧ E.map BegE.xs = listL p most ∧ E.length ≤ 1024 ∧ Gr w w' := by
 have G := Gr.refl w
 have hpt := hP.t
 have hph := hP.h
 have hpb := hP.b
 have hpl := hP.l
 have hplen := hP.len
 obtain ⟨hn1, hn2, hn3, hn4⟩ := hplen
 have hcp1 := hpt.cap
 have hcp2 := hph.cap
 have hcp3 := hpb.cap
 have hcp4 := hpl.cap
 refine Y.calls 29 Try.func26 rfl rfl ?_
 intro ac F0
 have F : Fr ac 29 [(0, .agg #[.slice ta p.nt tc, .slice ha p.nh hc, .slice ba p.nb bc, .slice la p.nl lc]), (1, Vi most)] := F0.sub _
 clear F0
 refine Y.sl ?_
 have hgs3 : w.heap.size ≤ w.heap.size := G.size
 refine Y.pv F (X.box rfl (F.ev 0 (.agg #[.slice ta p.nt tc, .slice ha p.nh hc, .slice ba p.nb bc, .slice la p.nl lc])) X.bx) ?_;clear F ac;intro ac F
 have hgs5 : w.heap.size ≤ w.heap.size := G.size
 have g := Gr.alloc w (.cells #[.slice ta p.nt tc, .slice ha p.nh hc, .slice ba p.nb bc, .slice la p.nl lc] 27)
 have hb := heap_alloc_new w (.cells #[.slice ta p.nt tc, .slice ha p.nh hc, .slice ba p.nb bc, .slice la p.nl lc] 27)
 have hbl : w.heap.size < (w.alloc (.cells #[.slice ta p.nt tc, .slice ha p.nh hc, .slice ba p.nb bc, .slice la p.nl lc] 27)).heap.size := by simp
 have hC2 : RCells (w.alloc (.cells #[.slice ta p.nt tc, .slice ha p.nh hc, .slice ba p.nb bc, .slice la p.nl lc] 27)) [(Ad w.heap.size 0, .slice ta p.nt tc), (Ad w.heap.size 1, .slice ha p.nh hc), (Ad w.heap.size 2, .slice ba p.nb bc), (Ad w.heap.size 3, .slice la p.nl lc)] := (RCells.nil w).box (b := w.heap.size) #[.slice ta p.nt tc, .slice ha p.nh hc, .slice ba p.nb bc, .slice la p.nl lc] 27 rfl
 generalize w.alloc (.cells #[.slice ta p.nt tc, .slice ha p.nh hc, .slice ba p.nb bc, .slice la p.nl lc] 27) = w6 at *
 replace G := G.trans g
 have hC := hC2
 clear hC2
 replace hpt := hpt.gr g
 replace hph := hph.gr g
 replace hpb := hpb.gr g
 replace hpl := hpl.gr g
 have hsz4 := hbl
 clear g hb hbl
 refine Y.pv F (X.assign rfl (X.kc (.slice none 0 0) rfl)) ?_;clear F ac;intro ac F
 refine Y.pv F (X.assign rfl (X.kc (Vi 0) rfl)) ?_;clear F ac;intro ac F
 refine Y.nt F [(1, Vi most), (2, Vp w.heap.size)] ?_;clear F ac;intro ac F
 refine Y.sl ?_
 refine Y.pv F (X.load rfl (F.ev 2 (Vp w.heap.size)) (X.ldN (Try.agg27 _) (Try.siz27 _) (Y.atz (⟨w.heap.size, 0, none⟩) (Y.AtFrom.cons (hC.at 0 rfl) (Y.AtFrom.cons (hC.at 1 rfl) (Y.AtFrom.cons (hC.at 2 rfl) (Y.AtFrom.cons (hC.at 3 rfl) (Y.AtFrom.nil _ _ _)))))))) ?_;clear F ac;intro ac F
 refine Y.pc F 19 (X.a1 (F.ev 8 (.agg #[.slice ta p.nt tc, .slice ha p.nh hc, .slice ba p.nb bc, .slice la p.nl lc]))) Try.func19 (check2_any p ta ha ba la tc hc bc lc w6 (hP.gr G)) ?_
 clear F ac
 rintro e w7 ⟨rfl, g⟩
 refine ⟨_, rfl, ?_⟩
 intro ac F
 replace G := G.trans g
 replace hC := hC.gr g
 replace hpt := hpt.gr g
 replace hph := hph.gr g
 replace hpb := hpb.gr g
 replace hpl := hpl.gr g
 clear g
 refine Y.pv F (X.assign rfl (F.ev 9 (Vi (chkE p)))) ?_;clear F ac;intro ac F
 refine Y.nt F [(1, Vi most), (2, Vp w.heap.size), (6, Vi (chkE p))] ?_;clear F ac;intro ac F
 refine Y.seq ?_
 refine Y.sg F [(1, Vi most), (2, Vp w.heap.size), (6, Vi (chkE p)), (11, .bool ((chkE p : Int) != 0))] (Y.pv F (X.move rfl (F.ev 6 (Vi (chkE p)))) fun ac F=>Y.pv F (X.binop rfl (F.ev 10 (Vi (chkE p))) (X.kc (Vi 0) rfl) (X.neqI Try.underlying31 rfl)) fun ac F=>Y.fin F) ?_;clear F ac;intro ac F
 cases h8 : ((chkE p : Int) != 0) with
 | false =>
  try rw [h8] at F
  have h8p : (chkE p : Int) = 0 := by simpa using h8
  have hck : chkE p = 0 := by omega
  have hp := chk_ok hck
  refine Y.condF (F.ev 11 (.bool false)) ?_
  refine Y.skip ?_
  refine X.thenN ?_
  refine Y.seq ?_
  refine Y.sl ?_
  refine Y.pv F (X.move rfl (F.ev 1 (Vi most))) ?_;clear F ac;intro ac F
  refine Y.pv F (X.binop rfl (F.ev 13 (Vi most)) (X.kc (Vi 1) rfl) (X.lssI Try.underlying3 rfl)) ?_;clear F ac;intro ac F
  refine Y.pv F (X.move rfl (F.ev 14 (.bool (decide ((most : Int) < 1))))) ?_;clear F ac;intro ac F
  cases h9 : decide ((most : Int) < 1) with
  | false =>
   try rw [h9] at F
   have h9p : ¬ ((most : Int) < 1) := of_decide_eq_false h9
   refine Y.pg F 2 15 false (X.move rfl (F.ev 1 (Vi most))) ?_;clear F ac;intro ac F
   refine Y.pg F 2 15 false (X.binop rfl (F.ev 16 (Vi most)) (X.kc (Vi 64) rfl) (X.gtrI Try.underlying3 rfl)) ?_;clear F ac;intro ac F
   refine Y.pv F (X.pickF rfl (F.ev 15 (.bool false)) (F.ev 17 (.bool (decide ((64 : Int) < most))))) ?_;clear F ac;intro ac F
   refine Y.nt F [(1, Vi most), (2, Vp w.heap.size), (18, .bool (decide ((64 : Int) < most)))] ?_;clear F ac;intro ac F
   cases h10 : decide ((64 : Int) < most) with
   | false =>
    try rw [h10] at F
    have h10p : ¬ ((64 : Int) < most) := of_decide_eq_false h10
    refine Y.condF (F.ev 18 (.bool false)) ?_
    refine Y.skip ?_
    refine X.thenN ?_
    refine Y.seq ?_
    refine Y.region F [some (.agg #[.slice ta p.nt tc, .slice ha p.nh hc, .slice ba p.nb bc, .slice la p.nl lc]), some (.agg #[.slice ta p.nt tc, .slice ha p.nh hc, .slice ba p.nb bc, .slice la p.nl lc]), none, none, none] [(2, Y.MP.rr (allP p)), (3, Y.MP.rr (sortedL p)), (4, Y.MP.rr (sortedL p))] rfl ⟨by kernel_rfl, of_decide_eq_true (by kernel_rfl), by kernel_rfl, by kernel_rfl, by kernel_rfl⟩ ⟨?_, ?_, ?_, ?_, ?_, trivial⟩ ?_
    ·intro ac done u W Sx hR
     have g : Gr w7 W := hR.1
     exact X.vl (X.load rfl (Sx.ev 2 (Vp w.heap.size)) (X.ldN (Try.agg27 _) (Try.siz27 _) (Y.atz (⟨w.heap.size, 0, none⟩) (Y.AtFrom.cons ((hC.gr g).at 0 rfl) (Y.AtFrom.cons ((hC.gr g).at 1 rfl) (Y.AtFrom.cons ((hC.gr g).at 2 rfl) (Y.AtFrom.cons ((hC.gr g).at 3 rfl) (Y.AtFrom.nil _ _ _)))))))) hR.st0
    ·intro ac done u W Sx hR
     have g : Gr w7 W := hR.1
     exact X.vl (X.load rfl (Sx.ev 2 (Vp w.heap.size)) (X.ldN (Try.agg27 _) (Try.siz27 _) (Y.atz (⟨w.heap.size, 0, none⟩) (Y.AtFrom.cons ((hC.gr g).at 0 rfl) (Y.AtFrom.cons ((hC.gr g).at 1 rfl) (Y.AtFrom.cons ((hC.gr g).at 2 rfl) (Y.AtFrom.cons ((hC.gr g).at 3 rfl) (Y.AtFrom.nil _ _ _)))))))) hR.st0
    ·intro ac done u W Sx hR
     have g : Gr w7 W := hR.1
     refine X.call (X.w0 rfl) (X.enter (F := 68) rfl (X.kc (.func (.func 68) #[] #[]) rfl) (X.a2 (Sx.ev 20 (.agg #[.slice ta p.nt tc, .slice ha p.nh hc, .slice ba p.nb bc, .slice la p.nl lc])) (X.kc (.slice none 0 0) rfl)) (enters_of Try.func68 (by kernel_rfl) rfl _)) (all_mp p ta ha ba la tc hc bc lc hp (hsm hck) W (hP.gr (G.trans g))) ?_
     rintro e W2 ⟨v, rfl, hp, g2⟩
     exact ⟨_, rfl, X.un rfl, hR.new (q := Y.MP.rr (allP p)) g2 rfl hp⟩
    ·intro ac done u W Sx hR
     have g : Gr w7 W := hR.1
     obtain ⟨ra11, rc11, E11, e2, hr11, hm11, hc11, hl11⟩ := hR.get (i := 2) (Y.MP.rr (allP p)) rfl (Sx.an 2 (by kernel_rfl))
     refine X.call (X.w0 rfl) (X.enter (F := 67) rfl (X.kc (.func (.func 67) #[] #[]) rfl) (X.a2 (Sx.ev 19 (.agg #[.slice ta p.nt tc, .slice ha p.nh hc, .slice ba p.nb bc, .slice la p.nl lc])) ((Sx.own 2 21 rfl).trans e2)) (enters_of Try.func67 (by kernel_rfl) rfl _)) (srt_mp p ta ha ba la tc hc bc lc ra11 rc11 E11 hp W (hP.gr (G.trans g)) hr11 hm11 hl11) ?_
     rintro e W2 ⟨v, rfl, hp, g2⟩
     exact ⟨_, rfl, X.un rfl, hR.new (q := Y.MP.rr (sortedL p)) g2 rfl hp⟩
    ·intro ac done u W Sx hR
     obtain ⟨ra12, rc12, E12, e3, hr12, hm12, hc12, hl12⟩ := hR.get (i := 3) (Y.MP.rr (sortedL p)) rfl (Sx.an 3 (by kernel_rfl))
     exact X.valN (X.w0 rfl) rfl (X.assign rfl (Sx.own 3 22 rfl)) (hR.new (q := Y.MP.rr (sortedL p)) (Gr.refl _) rfl ⟨ra12, rc12, E12, e3, hr12, hm12, hc12, hl12⟩)
    intro ac u w14 hs hd hl ho hR
    have g : Gr w7 w14 := hR.1
    obtain ⟨ra11, rc11, E11, e2, hr11, hm11, hc11, hl11⟩ := hR.get (i := 2) (Y.MP.rr (allP p)) rfl rfl
    obtain ⟨ra12, rc12, E12, e3, hr12, hm12, hc12, hl12⟩ := hR.get (i := 3) (Y.MP.rr (sortedL p)) rfl rfl
    obtain ⟨ra13, rc13, E13, e4, hr13, hm13, hc13, hl13⟩ := hR.get (i := 4) (Y.MP.rr (sortedL p)) rfl rfl
    replace F : Fr ac 29 [(1, Vi most)] := X.fr hs hd hl _ (by kernel_rfl)
    replace F := F.add (ho 4 7 rfl) e4
    replace F : Fr ac 29 [(1, Vi most), (7, .slice ra13 E13.length rc13)] := F.sub _
    clear e2 e3 e4
    clear hs hd hl ho hR
    replace G := G.trans g
    replace hC := hC.gr g
    replace hpt := hpt.gr g
    replace hph := hph.gr g
    replace hpb := hpb.gr g
    replace hpl := hpl.gr g
    clear g
    refine X.thenN ?_
    refine Y.sg F [(4, .slice ra13 (((min (most : Int) (E13.length : Int))).toNat) rc13), (5, Vi 0)] (by
     refine Y.pv F (X.move rfl (F.ev 7 (.slice ra13 E13.length rc13))) fun ac F=>?_
     refine Y.pv F (X.move rfl (F.ev 1 (Vi most))) fun ac F=>?_
     refine Y.pv F (X.move rfl (F.ev 7 (.slice ra13 E13.length rc13))) fun ac F=>?_
     refine Y.pv F (X.len1 Try.underlying38 rfl (F.ev 25 (.slice ra13 E13.length rc13))) fun ac F=>?_
     refine Y.pv F (Y.min2 rfl (F.ev 24 (Vi most)) (F.ev 26 (Vi E13.length))) fun ac F=>?_
     refine Y.pv F (Y.slH (k := ((min (most : Int) (E13.length : Int))).toNat) rfl (F.ev 23 (.slice ra13 E13.length rc13)) (F.ev 27 (Vi (min (most : Int) (E13.length : Int)))) Try.underlying38 (Try.siz34 _) (by omega) (by omega)) fun ac F=>?_
     refine Y.pv F (X.assign rfl (F.ev 28 (.slice ra13 (((min (most : Int) (E13.length : Int))).toNat) rc13))) fun ac F=>?_
     refine Y.pv F (X.assign rfl (X.kc (Vi 0) rfl)) fun ac F=>?_
     exact Y.fin F) ?_;clear F ac;intro ac F
    refine Y.ret ?_
    have hb := list_3 (p := p) (most := most) hck (by omega)
    have hmn : (min (most : Int) E13.length).toNat ≤ E13.length := by omega
    exact Y.ret0 (v := .tuple #[.slice ra13 (((min (most : Int) (E13.length : Int))).toNat) rc13, Vi 0]) F (Y.rs2 F rfl (by kernel_rfl) (by kernel_rfl)) ⟨_, _, E13.take (min (most : Int) E13.length).toNat, by rw [hb.1, List.length_take, Nat.min_eq_left hmn], hr13.take _, by rw [hb.2, List.map_take, hm13]; exact take_min (by rw [← hm13, List.length_map]; omega), by rw [List.length_take]; omega, G⟩
   | true =>
    try rw [h10] at F
    have h10p : ((64 : Int) < most) := of_decide_eq_true h10
    refine Y.condT (F.ev 18 (.bool true)) ?_
    refine Y.sg F [(4, .slice none 0 0), (5, Vi 1)] (Y.pv F (X.assign rfl (X.kc (.slice none 0 0) rfl)) fun ac F=>Y.pv F (X.assign rfl (X.kc (Vi 1) rfl)) fun ac F=>Y.fin F) ?_;clear F ac;intro ac F
    refine Y.ret ?_
    refine X.thenR ?_
    have hb := list_2 (p := p) (most := most) hck (by omega)
    exact Y.ret0 (v := .tuple #[.slice none 0 0, Vi 1]) F (Y.rs2 F rfl (by kernel_rfl) (by kernel_rfl)) ⟨none, 0, [], by rw [hb.1]; rfl, RrAt.nil _ _, hb.2.symm, by decide, G⟩
  | true =>
   try rw [h9] at F
   have h9p : ((most : Int) < 1) := of_decide_eq_true h9
   refine Y.ps F 2 15 true ?_;clear F ac;intro ac F
   refine Y.ps F 2 15 true ?_;clear F ac;intro ac F
   refine Y.pv F (X.pickT rfl (F.ev 15 (.bool true)) (X.kc (.bool true) rfl)) ?_;clear F ac;intro ac F
   refine Y.nt F [(1, Vi most), (2, Vp w.heap.size), (18, .bool true)] ?_;clear F ac;intro ac F
   refine Y.condT (F.ev 18 (.bool true)) ?_
   refine Y.sg F [(4, .slice none 0 0), (5, Vi 1)] (Y.pv F (X.assign rfl (X.kc (.slice none 0 0) rfl)) fun ac F=>Y.pv F (X.assign rfl (X.kc (Vi 1) rfl)) fun ac F=>Y.fin F) ?_;clear F ac;intro ac F
   refine Y.ret ?_
   refine X.thenR ?_
   have hb := list_2 (p := p) (most := most) hck (by omega)
   exact Y.ret0 (v := .tuple #[.slice none 0 0, Vi 1]) F (Y.rs2 F rfl (by kernel_rfl) (by kernel_rfl)) ⟨none, 0, [], by rw [hb.1]; rfl, RrAt.nil _ _, hb.2.symm, by decide, G⟩
 | true =>
  try rw [h8] at F
  have h8p : ¬ (chkE p : Int) = 0 := by simpa using h8
  refine Y.condT (F.ev 11 (.bool true)) ?_
  refine Y.sg F [(4, .slice none 0 0), (5, Vi (chkE p))] (Y.pv F (X.move rfl (F.ev 6 (Vi (chkE p)))) fun ac F=>Y.pv F (X.assign rfl (X.kc (.slice none 0 0) rfl)) fun ac F=>Y.pv F (X.assign rfl (F.ev 12 (Vi (chkE p)))) fun ac F=>Y.fin F) ?_;clear F ac;intro ac F
  refine Y.ret ?_
  refine X.thenR ?_
  have hb := list_1 (p := p) (most := most) (by omega)
  exact Y.ret0 (v := .tuple #[.slice none 0 0, Vi (chkE p)]) F (Y.rs2 F rfl (by kernel_rfl) (by kernel_rfl)) ⟨none, 0, [], by rw [hb.1]; rfl, RrAt.nil _ _, hb.2.symm, by decide, G⟩
set_option maxRecDepth 100000 in
set_option maxHeartbeats 1000000 in
theorem countR_any (p : Pb) (ta ha ba la : Option Addr) (tc hc bc lc : Nat) (hsm : chkE p = 0 → p.nt ≤ 5 ∧ p.nh ≤ 4) (w : World) (hP : PbAt w p ta ha ba la tc hc bc lc) :
  Calls Try.prog 28 #[.agg #[.slice ta p.nt tc, .slice ha p.nh hc, .slice ba p.nb bc, .slice la p.nl lc]] w fun e w' => e = .returned (.tuple #[Vi (countV p), Vi (chkE p)]) ∧ Gr w w' := by
 have G := Gr.refl w
 have hpt := hP.t
 have hph := hP.h
 have hpb := hP.b
 have hpl := hP.l
 have hplen := hP.len
 obtain ⟨hn1, hn2, hn3, hn4⟩ := hplen
 have hcp1 := hpt.cap
 have hcp2 := hph.cap
 have hcp3 := hpb.cap
 have hcp4 := hpl.cap
 refine Y.calls 13 Try.func28 rfl rfl ?_
 intro ac F0
 have F : Fr ac 13 [(0, .agg #[.slice ta p.nt tc, .slice ha p.nh hc, .slice ba p.nb bc, .slice la p.nl lc])] := F0.sub _
 clear F0
 refine Y.sl ?_
 have hgs3 : w.heap.size ≤ w.heap.size := G.size
 refine Y.pv F (X.box rfl (F.ev 0 (.agg #[.slice ta p.nt tc, .slice ha p.nh hc, .slice ba p.nb bc, .slice la p.nl lc])) X.bx) ?_;clear F ac;intro ac F
 have hgs5 : w.heap.size ≤ w.heap.size := G.size
 have g := Gr.alloc w (.cells #[.slice ta p.nt tc, .slice ha p.nh hc, .slice ba p.nb bc, .slice la p.nl lc] 27)
 have hb := heap_alloc_new w (.cells #[.slice ta p.nt tc, .slice ha p.nh hc, .slice ba p.nb bc, .slice la p.nl lc] 27)
 have hbl : w.heap.size < (w.alloc (.cells #[.slice ta p.nt tc, .slice ha p.nh hc, .slice ba p.nb bc, .slice la p.nl lc] 27)).heap.size := by simp
 have hC2 : RCells (w.alloc (.cells #[.slice ta p.nt tc, .slice ha p.nh hc, .slice ba p.nb bc, .slice la p.nl lc] 27)) [(Ad w.heap.size 0, .slice ta p.nt tc), (Ad w.heap.size 1, .slice ha p.nh hc), (Ad w.heap.size 2, .slice ba p.nb bc), (Ad w.heap.size 3, .slice la p.nl lc)] := (RCells.nil w).box (b := w.heap.size) #[.slice ta p.nt tc, .slice ha p.nh hc, .slice ba p.nb bc, .slice la p.nl lc] 27 rfl
 generalize w.alloc (.cells #[.slice ta p.nt tc, .slice ha p.nh hc, .slice ba p.nb bc, .slice la p.nl lc] 27) = w6 at *
 replace G := G.trans g
 have hC := hC2
 clear hC2
 replace hpt := hpt.gr g
 replace hph := hph.gr g
 replace hpb := hpb.gr g
 replace hpl := hpl.gr g
 have hsz4 := hbl
 clear g hb hbl
 refine Y.pv F (X.assign rfl (X.kc (Vi 0) rfl)) ?_;clear F ac;intro ac F
 refine Y.pv F (X.assign rfl (X.kc (Vi 0) rfl)) ?_;clear F ac;intro ac F
 refine Y.nt F [(1, Vp w.heap.size)] ?_;clear F ac;intro ac F
 refine Y.sl ?_
 refine Y.pv F (X.load rfl (F.ev 1 (Vp w.heap.size)) (X.ldN (Try.agg27 _) (Try.siz27 _) (Y.atz (⟨w.heap.size, 0, none⟩) (Y.AtFrom.cons (hC.at 0 rfl) (Y.AtFrom.cons (hC.at 1 rfl) (Y.AtFrom.cons (hC.at 2 rfl) (Y.AtFrom.cons (hC.at 3 rfl) (Y.AtFrom.nil _ _ _)))))))) ?_;clear F ac;intro ac F
 refine Y.pc F 19 (X.a1 (F.ev 5 (.agg #[.slice ta p.nt tc, .slice ha p.nh hc, .slice ba p.nb bc, .slice la p.nl lc]))) Try.func19 (check2_any p ta ha ba la tc hc bc lc w6 (hP.gr G)) ?_
 clear F ac
 rintro e w7 ⟨rfl, g⟩
 refine ⟨_, rfl, ?_⟩
 intro ac F
 replace G := G.trans g
 replace hC := hC.gr g
 replace hpt := hpt.gr g
 replace hph := hph.gr g
 replace hpb := hpb.gr g
 replace hpl := hpl.gr g
 clear g
 refine Y.pv F (X.assign rfl (F.ev 6 (Vi (chkE p)))) ?_;clear F ac;intro ac F
 refine Y.nt F [(1, Vp w.heap.size), (4, Vi (chkE p))] ?_;clear F ac;intro ac F
 refine Y.seq ?_
 refine Y.sg F [(1, Vp w.heap.size), (4, Vi (chkE p)), (8, .bool ((chkE p : Int) != 0))] (Y.pv F (X.move rfl (F.ev 4 (Vi (chkE p)))) fun ac F=>Y.pv F (X.binop rfl (F.ev 7 (Vi (chkE p))) (X.kc (Vi 0) rfl) (X.neqI Try.underlying31 rfl)) fun ac F=>Y.fin F) ?_;clear F ac;intro ac F
 cases h8 : ((chkE p : Int) != 0) with
 | false =>
  try rw [h8] at F
  have h8p : (chkE p : Int) = 0 := by simpa using h8
  have hck : chkE p = 0 := by omega
  have hp := chk_ok hck
  refine Y.condF (F.ev 8 (.bool false)) ?_
  refine Y.skip ?_
  refine X.thenN ?_
  refine Y.sl ?_
  refine Y.pv F (X.load rfl (F.ev 1 (Vp w.heap.size)) (X.ldN (Try.agg27 _) (Try.siz27 _) (Y.atz (⟨w.heap.size, 0, none⟩) (Y.AtFrom.cons (hC.at 0 rfl) (Y.AtFrom.cons (hC.at 1 rfl) (Y.AtFrom.cons (hC.at 2 rfl) (Y.AtFrom.cons (hC.at 3 rfl) (Y.AtFrom.nil _ _ _)))))))) ?_;clear F ac;intro ac F
  refine Y.pc F 68 (X.a2 (F.ev 10 (.agg #[.slice ta p.nt tc, .slice ha p.nh hc, .slice ba p.nb bc, .slice la p.nl lc])) (X.kc (.slice none 0 0) rfl)) Try.func68 (all_mp p ta ha ba la tc hc bc lc hp (hsm hck) w7 (hP.gr G)) ?_
  clear F ac
  rintro e w10 ⟨v_, rfl, hp, g⟩
  obtain ⟨ra9, rc9, E9, rfl, hr9, hm9, hc9, hl9⟩ := hp
  refine ⟨_, rfl, ?_⟩
  intro ac F
  replace G := G.trans g
  replace hC := hC.gr g
  replace hpt := hpt.gr g
  replace hph := hph.gr g
  replace hpb := hpb.gr g
  replace hpl := hpl.gr g
  clear g
  refine Y.pv F (X.len1 Try.underlying38 rfl (F.ev 11 (.slice ra9 E9.length rc9))) ?_;clear F ac;intro ac F
  refine Y.pv F (X.assign rfl (F.ev 12 (Vi E9.length))) ?_;clear F ac;intro ac F
  refine Y.pv F (X.assign rfl (X.kc (Vi 0) rfl)) ?_;clear F ac;intro ac F
  refine Y.nt F [(2, Vi E9.length), (3, Vi 0)] ?_;clear F ac;intro ac F
  refine Y.ret ?_
  exact Y.ret0 (v := .tuple #[Vi E9.length, Vi 0]) F (Y.rs2 F rfl (by kernel_rfl) (by kernel_rfl)) ⟨by rw [count_1 hck, ← hm9, List.length_map, hck], G⟩
 | true =>
  try rw [h8] at F
  have h8p : ¬ (chkE p : Int) = 0 := by simpa using h8
  refine Y.condT (F.ev 8 (.bool true)) ?_
  refine Y.sg F [(2, Vi 0), (3, Vi (chkE p))] (Y.pv F (X.move rfl (F.ev 4 (Vi (chkE p)))) fun ac F=>Y.pv F (X.assign rfl (X.kc (Vi 0) rfl)) fun ac F=>Y.pv F (X.assign rfl (F.ev 9 (Vi (chkE p)))) fun ac F=>Y.fin F) ?_;clear F ac;intro ac F
  refine Y.ret ?_
  refine X.thenR ?_
  exact Y.ret0 (v := .tuple #[Vi 0, Vi (chkE p)]) F (Y.rs2 F rfl (by kernel_rfl) (by kernel_rfl)) ⟨by rw [count_0 (by omega)], G⟩
end
section
open Go.RowKit

theorem Ints.nil0 (w : World) : Ints w none 0 [] := ⟨rfl, by decide, fun j hj => by omega⟩
set_option maxRecDepth 100000 in
set_option maxHeartbeats 2000000 in
theorem best_any (p : Pb) (ta ha ba la : Option Addr) (tc hc bc lc : Nat) (w : World) (hP : PbAt w p ta ha ba la tc hc bc lc) :
  Calls Try.prog 22 #[.agg #[.slice ta p.nt tc, .slice ha p.nh hc, .slice ba p.nb bc, .slice la p.nl lc]] w fun e w' => ∃ a c, e = .returned (.tuple #[.slice a (bestR p).1.length c, Vi (bestR p).2.1, Vi (bestR p).2.2]) ∧ Ints w' a (bestR p).1.length (bestR p).1 ∧ ((bestR p).1.length = 0 → a = none ∧ c = 0) ∧ Gr w w' := by
 have G := Gr.refl w
 have hpt := hP.t
 have hph := hP.h
 have hpb := hP.b
 have hpl := hP.l
 have hplen := hP.len
 obtain ⟨hn1, hn2, hn3, hn4⟩ := hplen
 have hcp1 := hpt.cap
 have hcp2 := hph.cap
 have hcp3 := hpb.cap
 have hcp4 := hpl.cap
 refine Y.calls 33 Try.func22 rfl rfl ?_
 intro ac F0
 have F : Fr ac 33 [(0, .agg #[.slice ta p.nt tc, .slice ha p.nh hc, .slice ba p.nb bc, .slice la p.nl lc])] := F0.sub _
 clear F0
 refine Y.sl ?_
 have hgs3 : w.heap.size ≤ w.heap.size := G.size
 refine Y.pv F (X.box rfl (F.ev 0 (.agg #[.slice ta p.nt tc, .slice ha p.nh hc, .slice ba p.nb bc, .slice la p.nl lc])) X.bx) ?_;clear F ac;intro ac F
 have hgs5 : w.heap.size ≤ w.heap.size := G.size
 have g := Gr.alloc w (.cells #[.slice ta p.nt tc, .slice ha p.nh hc, .slice ba p.nb bc, .slice la p.nl lc] 27)
 have hb := heap_alloc_new w (.cells #[.slice ta p.nt tc, .slice ha p.nh hc, .slice ba p.nb bc, .slice la p.nl lc] 27)
 have hbl : w.heap.size < (w.alloc (.cells #[.slice ta p.nt tc, .slice ha p.nh hc, .slice ba p.nb bc, .slice la p.nl lc] 27)).heap.size := by simp
 have hC2 : RCells (w.alloc (.cells #[.slice ta p.nt tc, .slice ha p.nh hc, .slice ba p.nb bc, .slice la p.nl lc] 27)) [(Ad w.heap.size 0, .slice ta p.nt tc), (Ad w.heap.size 1, .slice ha p.nh hc), (Ad w.heap.size 2, .slice ba p.nb bc), (Ad w.heap.size 3, .slice la p.nl lc)] := (RCells.nil w).box (b := w.heap.size) #[.slice ta p.nt tc, .slice ha p.nh hc, .slice ba p.nb bc, .slice la p.nl lc] 27 rfl
 generalize w.alloc (.cells #[.slice ta p.nt tc, .slice ha p.nh hc, .slice ba p.nb bc, .slice la p.nl lc] 27) = w6 at *
 replace G := G.trans g
 have hC := hC2
 clear hC2
 replace hpt := hpt.gr g
 replace hph := hph.gr g
 replace hpb := hpb.gr g
 replace hpl := hpl.gr g
 have hsz4 := hbl
 clear g hb hbl
 refine Y.pv F (X.assign rfl (X.kc (.slice none 0 0) rfl)) ?_;clear F ac;intro ac F
 refine Y.pv F (X.assign rfl (X.kc (Vi 0) rfl)) ?_;clear F ac;intro ac F
 refine Y.pv F (X.assign rfl (X.kc (Vi 0) rfl)) ?_;clear F ac;intro ac F
 refine Y.nt F [(1, Vp w.heap.size)] ?_;clear F ac;intro ac F
 refine Y.seq ?_
 refine Y.sl ?_
 refine Y.pv F (X.load rfl (F.ev 1 (Vp w.heap.size)) (X.ldN (Try.agg27 _) (Try.siz27 _) (Y.atz (⟨w.heap.size, 0, none⟩) (Y.AtFrom.cons (hC.at 0 rfl) (Y.AtFrom.cons (hC.at 1 rfl) (Y.AtFrom.cons (hC.at 2 rfl) (Y.AtFrom.cons (hC.at 3 rfl) (Y.AtFrom.nil _ _ _)))))))) ?_;clear F ac;intro ac F
 refine Y.pc F 18 (X.a1 (F.ev 7 (.agg #[.slice ta p.nt tc, .slice ha p.nh hc, .slice ba p.nb bc, .slice la p.nl lc]))) Try.func18 (check_any p ta ha ba la tc hc bc lc w6 (hP.gr G)) ?_
 clear F ac
 rintro e w7 ⟨rfl, g⟩
 refine ⟨_, rfl, ?_⟩
 intro ac F
 replace G := G.trans g
 replace hC := hC.gr g
 replace hpt := hpt.gr g
 replace hph := hph.gr g
 replace hpb := hpb.gr g
 replace hpl := hpl.gr g
 clear g
 refine Y.pv F (X.assign rfl (F.ev 8 (Vi (chkE p)))) ?_;clear F ac;intro ac F
 refine Y.nt F [(1, Vp w.heap.size), (5, Vi (chkE p))] ?_;clear F ac;intro ac F
 refine Y.sg F [(1, Vp w.heap.size), (5, Vi (chkE p)), (10, .bool ((chkE p : Int) != 0))] (Y.pv F (X.move rfl (F.ev 5 (Vi (chkE p)))) fun ac F=>Y.pv F (X.binop rfl (F.ev 9 (Vi (chkE p))) (X.kc (Vi 0) rfl) (X.neqI Try.underlying31 rfl)) fun ac F=>Y.fin F) ?_;clear F ac;intro ac F
 cases h8 : ((chkE p : Int) != 0) with
 | false =>
  try rw [h8] at F
  have h8p : (chkE p : Int) = 0 := by simpa using h8
  have hck : chkE p = 0 := by omega
  have hp := chk_ok hck
  refine Y.condF (F.ev 10 (.bool false)) ?_
  refine Y.skip ?_
  refine X.thenN ?_
  refine Y.sl ?_
  refine Y.pv F (X.load rfl (F.ev 1 (Vp w.heap.size)) (X.ldN (Try.agg27 _) (Try.siz27 _) (Y.atz (⟨w.heap.size, 0, none⟩) (Y.AtFrom.cons (hC.at 0 rfl) (Y.AtFrom.cons (hC.at 1 rfl) (Y.AtFrom.cons (hC.at 2 rfl) (Y.AtFrom.cons (hC.at 3 rfl) (Y.AtFrom.nil _ _ _)))))))) ?_;clear F ac;intro ac F
  refine Y.pc F 64 (X.a3 (F.ev 12 (.agg #[.slice ta p.nt tc, .slice ha p.nh hc, .slice ba p.nb bc, .slice la p.nl lc])) (X.kc (Vi 1) rfl) (X.kc (.func (.func 65) #[] #[]) rfl)) Try.func64 (first_any p ta ha ba la tc hc bc lc 1 65 #[] stillF w7 (hP.gr G) hp (by decide) (enters_of Try.func65 (by kernel_rfl) rfl) (fun W xs a c g hi hl hx => still_any a xs.length c W)) ?_
  clear F ac
  have hfG := G
  rintro e w9 ⟨rb, kv, lv, L, B, rfl, hRk, hV, hrb, hBw, hLm, g⟩
  refine ⟨_, rfl, ?_⟩
  intro ac F
  replace G := G.trans g
  replace hC := hC.gr g
  replace hpt := hpt.gr g
  replace hph := hph.gr g
  replace hpb := hpb.gr g
  replace hpl := hpl.gr g
  clear g
  rw [still_law hp (by decide)] at hV
  injection hV with hV
  replace hV := hV.symm
  obtain ⟨ka, kc, rfl⟩ := hRk.k.form
  obtain ⟨la9, lc9, rfl⟩ := hRk.l.form
  refine Y.pv F (X.assign rfl (F.ev 13 (Vp rb))) ?_;clear F ac;intro ac F
  refine Y.nt F [(6, Vp rb)] ?_;clear F ac;intro ac F
  refine Y.seq ?_
  refine Y.sl ?_
  refine Y.pv F (X.move rfl (F.ev 6 (Vp rb))) ?_;clear F ac;intro ac F
  refine Y.pv F (Y.nilC rfl (F.ev 14 (Vp rb))) ?_;clear F ac;intro ac F
  refine Y.pv F (X.field rfl (F.ev 15 (Vp rb)) (X.fld Try.underlying91 rfl (Try.siz38 _) rfl rfl)) ?_;clear F ac;intro ac F
  replace hC : RCells w9 [(Ad w.heap.size 0, .slice ta p.nt tc), (Ad w.heap.size 1, .slice ha p.nh hc), (Ad w.heap.size 2, .slice ba p.nb bc), (Ad w.heap.size 3, .slice la p.nl lc), (Ad rb 0, Vi (1 : Nat)), (Ad rb 1, .slice ka L.length kc), (Ad rb 2, .slice la9 L.length lc9)] := hC.append ((RCells.cons (hRk.own.cell (k := 0) (by decide)) (RCells.cons (hRk.own.cell (k := 1) (by decide)) (RCells.cons (hRk.own.cell (k := 2) (by decide)) (RCells.nil _)))))
  refine Y.pv F (X.load rfl (F.ev 16 (.pointer (some ⟨rb, 2, none⟩))) (X.ld1 (Try.agg38 _) (hC.at 6 rfl))) ?_;clear F ac;intro ac F
  refine Y.pv F (X.len1 Try.underlying38 rfl (F.ev 17 (.slice la9 L.length lc9))) ?_;clear F ac;intro ac F
  refine Y.pv F (X.binop rfl (F.ev 18 (Vi L.length)) (X.kc (Vi 0) rfl) (X.eqlI Try.underlying3 rfl)) ?_;clear F ac;intro ac F
  refine Y.nt F [(6, Vp rb), (19, .bool ((L.length : Int) == 0))] ?_;clear F ac;intro ac F
  cases h10 : ((L.length : Int) == 0) with
  | false =>
   try rw [h10] at F
   have h10p : ¬ (L.length : Int) = 0 := by simpa using h10
   obtain ⟨y, hy⟩ : ∃ y, L[0]? = some y := ⟨_, List.getElem?_eq_getElem (by omega)⟩
   obtain ⟨g9, Lr, rfl, -⟩ := hRk.k.row (by omega)
   obtain ⟨g8, Lr8, rfl, -⟩ := hRk.l.row (by omega)
   have hkc := keys_cell hRk.k rfl hy
   have hlc := begs_cell hRk.l rfl hy
   have hyb := hRk.b y (List.mem_of_getElem? hy)
   replace hC : RCells w9 [(Ad w.heap.size 0, .slice ta p.nt tc), (Ad w.heap.size 1, .slice ha p.nh hc), (Ad w.heap.size 2, .slice ba p.nb bc), (Ad w.heap.size 3, .slice la p.nl lc), (Ad rb 0, Vi (1 : Nat)), (Ad rb 1, .slice (some ⟨g9, 0, none⟩) L.length kc), (Ad rb 2, .slice (some ⟨g8, 0, none⟩) L.length lc9), (⟨g9, 0 * 2, none⟩, Vi y.1.1), (⟨g9, 0 * 2 + 1, none⟩, Vi y.1.2), (Ad g8 0, .slice y.2.a y.2.xs.length y.2.c)] := hC.append ((RCells.cons hkc.1 (RCells.cons hkc.2 (RCells.cons hlc (RCells.nil _)))))
   refine Y.condF (F.ev 19 (.bool false)) ?_
   refine Y.skip ?_
   refine X.thenN ?_
   refine Y.seq ?_
   refine Y.region F [some (Vp rb), some (Vp rb), some (.pointer (some ⟨rb, 2, none⟩)), some (.slice (some ⟨g8, 0, none⟩) L.length lc9), some (Vp g8), some (.slice y.2.a y.2.xs.length y.2.c), some (Vp rb), some (Vp rb), some (.pointer (some ⟨rb, 1, none⟩)), some (.slice (some ⟨g9, 0, none⟩) L.length kc), some (.pointer (some ⟨g9, 0 * 2, none⟩)), some (.pointer (some ⟨g9, 0 * 2 + 1, none⟩)), some (Vi y.1.2), some (.slice y.2.a y.2.xs.length y.2.c), some (Vi y.1.2), some (Vi 0)] [] rfl ⟨by kernel_rfl, of_decide_eq_true (by kernel_rfl), by kernel_rfl, by kernel_rfl, by kernel_rfl⟩ ⟨?_, ?_, ?_, ?_, ?_, ?_, ?_, ?_, ?_, ?_, ?_, ?_, ?_, ?_, ?_, ?_, trivial⟩ ?_
   ·intro ac done u W Sx hR
    exact X.vl (X.move rfl (Sx.ev 6 (Vp rb))) hR.st0
   ·intro ac done u W Sx hR
    exact X.vl (Y.nilC rfl (Sx.ev 20 (Vp rb))) hR.st0
   ·intro ac done u W Sx hR
    exact X.vl (X.field rfl (Sx.ev 21 (Vp rb)) (X.fld Try.underlying91 rfl (Try.siz38 _) rfl rfl)) hR.st0
   ·intro ac done u W Sx hR
    have g : Gr w9 W := hR.1
    exact X.vl (X.load rfl (Sx.ev 22 (.pointer (some ⟨rb, 2, none⟩))) (X.ld1 (Try.agg38 _) ((hC.gr g).at 6 rfl))) hR.st0
   ·intro ac done u W Sx hR
    exact X.vl (X.index rfl (Sx.ev 23 (.slice (some ⟨g8, 0, none⟩) L.length lc9)) (X.kc (Vi 0) rfl) (X.idx (k := 0) Try.underlying38 (Try.siz34 _) (by omega) (by omega) (addr_add0 _ _))) hR.st0
   ·intro ac done u W Sx hR
    have g : Gr w9 W := hR.1
    exact X.vl (X.load rfl (Sx.ev 24 (Vp g8)) (X.ld1 (Try.agg34 _) ((hC.gr g).at 9 rfl))) hR.st0
   ·intro ac done u W Sx hR
    exact X.vl (X.move rfl (Sx.ev 6 (Vp rb))) hR.st0
   ·intro ac done u W Sx hR
    exact X.vl (Y.nilC rfl (Sx.ev 26 (Vp rb))) hR.st0
   ·intro ac done u W Sx hR
    exact X.vl (X.field rfl (Sx.ev 27 (Vp rb)) (X.fld Try.underlying91 rfl (Try.siz89 _) rfl rfl)) hR.st0
   ·intro ac done u W Sx hR
    have g : Gr w9 W := hR.1
    exact X.vl (X.load rfl (Sx.ev 28 (.pointer (some ⟨rb, 1, none⟩))) (X.ld1 (Try.agg89 _) ((hC.gr g).at 5 rfl))) hR.st0
   ·intro ac done u W Sx hR
    exact X.vl (X.index rfl (Sx.ev 29 (.slice (some ⟨g9, 0, none⟩) L.length kc)) (X.kc (Vi 0) rfl) (X.idx (k := 0) Try.underlying89 (Try.siz92 _) (by omega) (by omega) (addr_add0 _ _))) hR.st0
   ·intro ac done u W Sx hR
    exact X.vl (X.index rfl (Sx.ev 30 (.pointer (some ⟨g9, 0 * 2, none⟩))) (X.kc (Vi 1) rfl) (Y.idxA (k := 1) Try.underlying92 (Try.siz3 _) (by decide) (by omega) (by omega) rfl)) hR.st0
   ·intro ac done u W Sx hR
    have g : Gr w9 W := hR.1
    exact X.vl (X.load rfl (Sx.ev 31 (.pointer (some ⟨g9, 0 * 2 + 1, none⟩))) (X.ld1 (Try.agg3 _) ((hC.gr g).at 8 rfl))) hR.st0
   ·intro ac done u W Sx hR
    exact X.vl (X.assign rfl (Sx.ev 25 (.slice y.2.a y.2.xs.length y.2.c))) hR.st0
   ·intro ac done u W Sx hR
    exact X.vl (X.assign rfl (Sx.ev 32 (Vi y.1.2))) hR.st0
   ·intro ac done u W Sx hR
    exact X.vl (X.assign rfl (X.kc (Vi 0) rfl)) hR.st0
   intro ac u w11 hs hd hl ho hR
   have g : Gr w9 w11 := hR.1
   replace F : Fr ac 33 [(2, .slice y.2.a y.2.xs.length y.2.c), (3, Vi y.1.2), (4, Vi 0)] := X.fr hs hd hl _ (by kernel_rfl)
   clear hs hd hl ho hR
   replace G := G.trans g
   replace hC := hC.gr g
   replace hpt := hpt.gr g
   replace hph := hph.gr g
   replace hpb := hpb.gr g
   replace hpl := hpl.gr g
   replace hRk := hRk.gr g
   clear g
   refine X.thenN ?_
   refine Y.ret ?_
   have hb := best_3 hck hV hy
   exact Y.ret0 (v := .tuple #[.slice y.2.a y.2.xs.length y.2.c, Vi y.1.2, Vi 0]) F (Y.rs3 F rfl (by kernel_rfl) (by kernel_rfl) (by kernel_rfl)) ⟨y.2.a, y.2.c, by rw [hb], by rw [hb]; exact (hRk.b y (List.mem_of_getElem? hy)).i, by rw [hb]; exact hyb.nil, G⟩
  | true =>
   try rw [h10] at F
   have h10p : (L.length : Int) = 0 := by simpa using h10
   refine Y.condT (F.ev 19 (.bool true)) ?_
   refine Y.sg F [(2, .slice none 0 0), (3, Vi 0), (4, Vi 3)] (Y.pv F (X.assign rfl (X.kc (.slice none 0 0) rfl)) fun ac F=>Y.pv F (X.assign rfl (X.kc (Vi 0) rfl)) fun ac F=>Y.pv F (X.assign rfl (X.kc (Vi 3) rfl)) fun ac F=>Y.fin F) ?_;clear F ac;intro ac F
   refine Y.ret ?_
   refine X.thenR ?_
   have hb := best_2 hck hV (by omega)
   exact Y.ret0 (v := .tuple #[.slice none 0 0, Vi 0, Vi 3]) F (Y.rs3 F rfl (by kernel_rfl) (by kernel_rfl) (by kernel_rfl)) ⟨none, 0, by rw [hb]; rfl, by rw [hb]; exact Ints.nil0 _, by rw [hb]; exact fun _ => ⟨rfl, rfl⟩, G⟩
 | true =>
  try rw [h8] at F
  have h8p : ¬ (chkE p : Int) = 0 := by simpa using h8
  refine Y.condT (F.ev 10 (.bool true)) ?_
  refine Y.sg F [(2, .slice none 0 0), (3, Vi 0), (4, Vi (chkE p))] (Y.pv F (X.move rfl (F.ev 5 (Vi (chkE p)))) fun ac F=>Y.pv F (X.assign rfl (X.kc (.slice none 0 0) rfl)) fun ac F=>Y.pv F (X.assign rfl (X.kc (Vi 0) rfl)) fun ac F=>Y.pv F (X.assign rfl (F.ev 11 (Vi (chkE p)))) fun ac F=>Y.fin F) ?_;clear F ac;intro ac F
  refine Y.ret ?_
  refine X.thenR ?_
  have hb := best_1 (p := p) (by omega)
  exact Y.ret0 (v := .tuple #[.slice none 0 0, Vi 0, Vi (chkE p)]) F (Y.rs3 F rfl (by kernel_rfl) (by kernel_rfl) (by kernel_rfl)) ⟨none, 0, by rw [hb]; rfl, by rw [hb]; exact Ints.nil0 _, by rw [hb]; exact fun _ => ⟨rfl, rfl⟩, G⟩
end
section
open Go.RowKit

/-- the problem of the examples -/
def exP : Pb where
  nt := 2
  nh := 2
  nb := 0
  nl := 1
  tn := fun i => if i = 0 then ⟨#[97]⟩ else ⟨#[98]⟩
  tv := fun i r => (([[0, 2, 3, 0], [0, 1, 3, 2]] : List (List Int))[i]?.getD [])[r]?.getD 0
  hn := fun i => if i = 0 then ⟨#[120]⟩ else ⟨#[121]⟩
  hv := fun i r => (([[0, 4, 5, 2, 0, 10], [0, 2, 5, 0, 1, 4]] : List (List Int))[i]?.getD [])[r]?.getD 0
  bv := fun _ _ => 0
  lv := fun _ r => ([0, 1, 3] : List Int)[r]?.getD 0
theorem ex_best : bestR exP = ([1, 0], 20, 0) := by kernel_rfl
theorem TbAt.only {S : Nat → Prop} {w w' : World} {k : Nat} {a : Option Addr} {n c : Nat} {V : Nat → Nat → Value} (h : TbAt w k a n c V) (g : Only S w w') (hn : ∀ ad, a = some ad → ¬ S ad.block) : TbAt w' k a n c V :=
  ⟨h.1, h.2.1, fun j hj => by
    obtain ⟨ad, e, hb, hc⟩ := h.2.2 j hj
    exact ⟨ad, e, Nat.lt_of_lt_of_le hb g.size, fun r hr => g.cell (hc r hr) (by rw [add_block, add_block]; exact hn ad e)⟩⟩
theorem TbAt.nil (w : World) (k c : Nat) (a : Option Addr) (V : Nat → Nat → Value) : TbAt w k a 0 c V := ⟨Nat.zero_le _, by simp, fun j hj => by omega⟩
theorem tb_new {W : World} {b k n : Nat} {V : Nat → Nat → Value} {cs : List Value} {t : TypeId} (h : W.heap[b]? = some (.cells cs.toArray t)) (hn : n * k * 8 ≤ 140737488351232) (hc : ∀ j r, j < n → r < k → cs[j * k + r]? = some (V j r)) : TbAt W k (some ⟨b, 0, none⟩) n n V :=
  ⟨Nat.le_refl _, hn, fun j hj => ⟨_, rfl, (Array.getElem?_eq_some_iff.1 h).1, fun r hr => by
    rw [addr_add0, show (⟨b, j * k, none⟩ : Addr).add r = ⟨b, j * k + r, none⟩ from Y.addr_add _ _ _]
    exact cell_at h (by simpa using hc j r hj hr)⟩⟩
theorem exT_at {W : World} {b : Nat} (h : W.heap[b]? = some (.cells #[.string ⟨#[97]⟩, .int .i64 2, .int .i64 3, .int .i64 0, .string ⟨#[98]⟩, .int .i64 1, .int .i64 3, .int .i64 2] 74)) : TbAt W 4 (some ⟨b, 0, none⟩) 2 2 (tvV exP) := tb_new (cs := [.string ⟨#[97]⟩, .int .i64 2, .int .i64 3, .int .i64 0, .string ⟨#[98]⟩, .int .i64 1, .int .i64 3, .int .i64 2]) h (by decide) (fun j r hj hr => by
  have h1 : j = 0 ∨ j = 1 := by omega
  have h2 : r = 0 ∨ r = 1 ∨ r = 2 ∨ r = 3 := by omega
  rcases h1 with rfl | rfl <;> rcases h2 with rfl | rfl | rfl | rfl <;> rfl)
theorem exH_at {W : World} {b : Nat} (h : W.heap[b]? = some (.cells #[.string ⟨#[120]⟩, .int .i64 4, .int .i64 5, .int .i64 2, .int .i64 0, .int .i64 10, .string ⟨#[121]⟩, .int .i64 2, .int .i64 5, .int .i64 0, .int .i64 1, .int .i64 4] 53)) : TbAt W 6 (some ⟨b, 0, none⟩) 2 2 (hvV exP) := tb_new (cs := [.string ⟨#[120]⟩, .int .i64 4, .int .i64 5, .int .i64 2, .int .i64 0, .int .i64 10, .string ⟨#[121]⟩, .int .i64 2, .int .i64 5, .int .i64 0, .int .i64 1, .int .i64 4]) h (by decide) (fun j r hj hr => by
  have h1 : j = 0 ∨ j = 1 := by omega
  have h2 : r = 0 ∨ r = 1 ∨ r = 2 ∨ r = 3 ∨ r = 4 ∨ r = 5 := by omega
  rcases h1 with rfl | rfl <;> rcases h2 with rfl | rfl | rfl | rfl | rfl | rfl <;> rfl)
theorem exL_at {W : World} {b : Nat} (h : W.heap[b]? = some (.cells #[.int .i64 0, .int .i64 1, .int .i64 3] 84)) : TbAt W 3 (some ⟨b, 0, none⟩) 1 1 (lvV exP) := tb_new (cs := [.int .i64 0, .int .i64 1, .int .i64 3]) h (by decide) (fun j r hj hr => by
  obtain rfl : j = 0 := by omega
  have h2 : r = 0 ∨ r = 1 ∨ r = 2 := by omega
  rcases h2 with rfl | rfl | rfl <;> rfl)
theorem Try.exT0 (w : World) : (Instr.build 74 #[(0, .string ⟨#[97]⟩), (1, .int .i64 2), (2, .int .i64 3)]).run Try.prog w = .ok (.agg #[.string ⟨#[97]⟩, .int .i64 2, .int .i64 3, .int .i64 0]) w := by kernel_rfl
theorem Try.exT1 (w : World) : (Instr.build 74 #[(0, .string ⟨#[98]⟩), (1, .int .i64 1), (2, .int .i64 3), (3, .int .i64 2)]).run Try.prog w = .ok (.agg #[.string ⟨#[98]⟩, .int .i64 1, .int .i64 3, .int .i64 2]) w := by kernel_rfl
theorem Try.exH0 (w : World) : (Instr.build 53 #[(0, .string ⟨#[120]⟩), (1, .int .i64 4), (2, .int .i64 5), (3, .int .i64 2), (5, .int .i64 10)]).run Try.prog w = .ok (.agg #[.string ⟨#[120]⟩, .int .i64 4, .int .i64 5, .int .i64 2, .int .i64 0, .int .i64 10]) w := by kernel_rfl
theorem Try.exH1 (w : World) : (Instr.build 53 #[(0, .string ⟨#[121]⟩), (1, .int .i64 2), (2, .int .i64 5), (4, .int .i64 1), (5, .int .i64 4)]).run Try.prog w = .ok (.agg #[.string ⟨#[121]⟩, .int .i64 2, .int .i64 5, .int .i64 0, .int .i64 1, .int .i64 4]) w := by kernel_rfl
theorem Try.exL0 (w : World) : (Instr.build 84 #[(0, .int .i64 0), (1, .int .i64 1), (2, .int .i64 3)]).run Try.prog w = .ok (.agg #[.int .i64 0, .int .i64 1, .int .i64 3]) w := by kernel_rfl
theorem Try.exsT (w : World) : (Instr.buildSlice 22 2 #[(0, .agg #[.string ⟨#[97]⟩, .int .i64 2, .int .i64 3, .int .i64 0]), (1, .agg #[.string ⟨#[98]⟩, .int .i64 1, .int .i64 3, .int .i64 2])]).run Try.prog w = .ok (.slice (some ⟨w.heap.size, 0, none⟩) 2 2) (w.alloc (.cells #[.string ⟨#[97]⟩, .int .i64 2, .int .i64 3, .int .i64 0, .string ⟨#[98]⟩, .int .i64 1, .int .i64 3, .int .i64 2] 74)) := by kernel_rfl
theorem Try.exsH (w : World) : (Instr.buildSlice 23 2 #[(0, .agg #[.string ⟨#[120]⟩, .int .i64 4, .int .i64 5, .int .i64 2, .int .i64 0, .int .i64 10]), (1, .agg #[.string ⟨#[121]⟩, .int .i64 2, .int .i64 5, .int .i64 0, .int .i64 1, .int .i64 4])]).run Try.prog w = .ok (.slice (some ⟨w.heap.size, 0, none⟩) 2 2) (w.alloc (.cells #[.string ⟨#[120]⟩, .int .i64 4, .int .i64 5, .int .i64 2, .int .i64 0, .int .i64 10, .string ⟨#[121]⟩, .int .i64 2, .int .i64 5, .int .i64 0, .int .i64 1, .int .i64 4] 53)) := by kernel_rfl
theorem Try.exsL (w : World) : (Instr.buildSlice 25 1 #[(0, .agg #[.int .i64 0, .int .i64 1, .int .i64 3])]).run Try.prog w = .ok (.slice (some ⟨w.heap.size, 0, none⟩) 1 1) (w.alloc (.cells #[.int .i64 0, .int .i64 1, .int .i64 3] 84)) := by kernel_rfl
theorem Try.bd27 (a b c : Option Addr) (n1 c1 n2 c2 n3 c3 : Nat) (w : World) : (Instr.build 27 #[(0, .slice a n1 c1), (1, .slice b n2 c2), (3, .slice c n3 c3)]).run Try.prog w = .ok (.agg #[.slice a n1 c1, .slice b n2 c2, .slice none 0 0, .slice c n3 c3]) w := by kernel_rfl
theorem X.b013 {ρ : Operand → Value} {x y z : Operand} {v1 v2 v3 : Value} (h1 : ρ x = v1) (h2 : ρ y = v2) (h3 : ρ z = v3) : [(0, x), (1, y), (3, z)].map (fun p : Nat × Operand => (p.1, ρ p.2)) = [(0, v1), (1, v2), (3, v3)] := by simp [h1, h2, h3]
theorem exT_sz : ∀ i, i < exP.nt → (exP.tn i).size ≤ 9223372036854775807 := fun i _ => by
  show (if i = 0 then (⟨#[97]⟩ : ByteArray) else ⟨#[98]⟩).size ≤ _
  split <;> decide
theorem exH_sz : ∀ i, i < exP.nh → (exP.hn i).size ≤ 9223372036854775807 := fun i _ => by
  show (if i = 0 then (⟨#[120]⟩ : ByteArray) else ⟨#[121]⟩).size ≤ _
  split <;> decide
set_option maxRecDepth 100000 in
set_option maxHeartbeats 400000 in
theorem example_any (w : World) :
  Calls Try.prog 51 #[] w fun e w' => ∃ ta ha la, e = .returned (.agg #[.slice ta 2 2, .slice ha 2 2, .slice none 0 0, .slice la 1 1]) ∧ PbAt w' exP ta ha none la 2 2 0 1 ∧ Gr w w' := by
 have G := Gr.refl w
 refine Y.calls 10 Try.func51 rfl rfl ?_
 intro ac F0
 have F : Fr ac 10 [] := F0.sub _
 clear F0
 refine Y.sl ?_
 refine Y.pv F (Y.al rfl (Try.new27 _)) ?_;clear F ac;intro ac F
 have g := Gr.alloc w (.cells #[.slice none 0 0, .slice none 0 0, .slice none 0 0, .slice none 0 0] 27)
 have hb := heap_alloc_new w (.cells #[.slice none 0 0, .slice none 0 0, .slice none 0 0, .slice none 0 0] 27)
 have hszw3 : w.heap.size < (w.alloc (.cells #[.slice none 0 0, .slice none 0 0, .slice none 0 0, .slice none 0 0] 27)).heap.size := by simp
 have hgsw3 : w.heap.size ≤ w.heap.size := G.size
 generalize w.alloc (.cells #[.slice none 0 0, .slice none 0 0, .slice none 0 0, .slice none 0 0] 27) = w3 at *
 replace G := G.trans g
 have hVw3 : OwnP w3 w.heap.size 4 (VL [.slice none 0 0, .slice none 0 0, .slice none 0 0, .slice none 0 0]) := ownP_bx (vs := [.slice none 0 0, .slice none 0 0, .slice none 0 0, .slice none 0 0]) hb
 clear g hb
 refine Y.nt F [(0, Vp w.heap.size)] ?_;clear F ac;intro ac F
 refine Y.sl ?_
 refine Y.pv F (Y.bd rfl rfl (Try.exT0 _)) ?_;clear F ac;intro ac F
 refine Y.pv F (Y.bd rfl rfl (Try.exT1 _)) ?_;clear F ac;intro ac F
 refine Y.pv F (X.bs rfl (X.b2 (F.ev 1 (.agg #[.string ⟨#[97]⟩, Vi 2, Vi 3, Vi 0])) (F.ev 2 (.agg #[.string ⟨#[98]⟩, Vi 1, Vi 3, Vi 2]))) (Try.exsT _)) ?_;clear F ac;intro ac F
 have g := Gr.alloc w3 (.cells #[.string ⟨#[97]⟩, Vi 2, Vi 3, Vi 0, .string ⟨#[98]⟩, Vi 1, Vi 3, Vi 2] 74)
 have hgsT : w.heap.size ≤ w3.heap.size := G.size
 have hboT : w.heap.size < w3.heap.size := hVw3.lt
 have hxT := exT_at (heap_alloc_new w3 (.cells #[.string ⟨#[97]⟩, Vi 2, Vi 3, Vi 0, .string ⟨#[98]⟩, Vi 1, Vi 3, Vi 2] 74))
 generalize w3.alloc (.cells #[.string ⟨#[97]⟩, Vi 2, Vi 3, Vi 0, .string ⟨#[98]⟩, Vi 1, Vi 3, Vi 2] 74) = w4 at *
 replace G := G.trans g
 replace hVw3 := hVw3.gr g
 clear g
 refine Y.pv F (Y.bd rfl rfl (Try.exH0 _)) ?_;clear F ac;intro ac F
 refine Y.pv F (Y.bd rfl rfl (Try.exH1 _)) ?_;clear F ac;intro ac F
 refine Y.pv F (X.bs rfl (X.b2 (F.ev 4 (.agg #[.string ⟨#[120]⟩, Vi 4, Vi 5, Vi 2, Vi 0, Vi 10])) (F.ev 5 (.agg #[.string ⟨#[121]⟩, Vi 2, Vi 5, Vi 0, Vi 1, Vi 4]))) (Try.exsH _)) ?_;clear F ac;intro ac F
 have g := Gr.alloc w4 (.cells #[.string ⟨#[120]⟩, Vi 4, Vi 5, Vi 2, Vi 0, Vi 10, .string ⟨#[121]⟩, Vi 2, Vi 5, Vi 0, Vi 1, Vi 4] 53)
 have hgsH : w.heap.size ≤ w4.heap.size := G.size
 have hboH : w.heap.size < w4.heap.size := hVw3.lt
 have hxH := exH_at (heap_alloc_new w4 (.cells #[.string ⟨#[120]⟩, Vi 4, Vi 5, Vi 2, Vi 0, Vi 10, .string ⟨#[121]⟩, Vi 2, Vi 5, Vi 0, Vi 1, Vi 4] 53))
 generalize w4.alloc (.cells #[.string ⟨#[120]⟩, Vi 4, Vi 5, Vi 2, Vi 0, Vi 10, .string ⟨#[121]⟩, Vi 2, Vi 5, Vi 0, Vi 1, Vi 4] 53) = w5 at *
 replace G := G.trans g
 replace hVw3 := hVw3.gr g
 replace hxT := hxT.gr g
 clear g
 refine Y.pv F (Y.bd rfl rfl (Try.exL0 _)) ?_;clear F ac;intro ac F
 refine Y.pv F (X.bs rfl (X.b1 (F.ev 7 (.agg #[Vi 0, Vi 1, Vi 3]))) (Try.exsL _)) ?_;clear F ac;intro ac F
 have g := Gr.alloc w5 (.cells #[Vi 0, Vi 1, Vi 3] 84)
 have hgsL : w.heap.size ≤ w5.heap.size := G.size
 have hboL : w.heap.size < w5.heap.size := hVw3.lt
 have hxL := exL_at (heap_alloc_new w5 (.cells #[Vi 0, Vi 1, Vi 3] 84))
 generalize w5.alloc (.cells #[Vi 0, Vi 1, Vi 3] 84) = w6 at *
 replace G := G.trans g
 replace hVw3 := hVw3.gr g
 replace hxT := hxT.gr g
 replace hxH := hxH.gr g
 clear g
 refine Y.pv F (Y.bd rfl (X.b013 (F.ev 3 (.slice (some ⟨w3.heap.size, 0, none⟩) 2 2)) (F.ev 6 (.slice (some ⟨w4.heap.size, 0, none⟩) 2 2)) (F.ev 8 (.slice (some ⟨w5.heap.size, 0, none⟩) 1 1))) (Try.bd27 _ _ _ _ _ _ _ _ _ _)) ?_;clear F ac;intro ac F
 obtain ⟨w7, hrun, hV2, hon⟩ := ownP_store (P := Try.prog) (vs := [.slice (some ⟨w3.heap.size, 0, none⟩) 2 2, .slice (some ⟨w4.heap.size, 0, none⟩) 2 2, .slice none 0 0, .slice (some ⟨w5.heap.size, 0, none⟩) 1 1]) (t := 27) hVw3 rfl (fun W => Try.siz27 W) rfl
 refine Y.punit F (X.w0 rfl) rfl (X.store rfl (F.ev 0 (Vp w.heap.size)) (F.ev 9 (.agg #[.slice (some ⟨w3.heap.size, 0, none⟩) 2 2, .slice (some ⟨w4.heap.size, 0, none⟩) 2 2, .slice none 0 0, .slice (some ⟨w5.heap.size, 0, none⟩) 1 1])) hrun) ?_
 clear F ac hrun
 intro ac F
 replace hxT := hxT.only hon (fun ad e h => by injection e with e; subst e; have h9 : _ = _ := h; simp only at h9; omega)
 replace hxH := hxH.only hon (fun ad e h => by injection e with e; subst e; have h9 : _ = _ := h; simp only at h9; omega)
 replace hxL := hxL.only hon (fun ad e h => by injection e with e; subst e; have h9 : _ = _ := h; simp only at h9; omega)
 replace G := Y.Only.up G hon (by omega)
 refine Y.nt F [(0, Vp w.heap.size)] ?_;clear F ac;intro ac F
 refine Y.ret ?_
 exact Y.ret0 (v := .agg #[.slice (some ⟨w3.heap.size, 0, none⟩) 2 2, .slice (some ⟨w4.heap.size, 0, none⟩) 2 2, .slice none 0 0, .slice (some ⟨w5.heap.size, 0, none⟩) 1 1]) F (Y.rcl F rfl (by kernel_rfl) (ownP_load hV2 (Try.agg27 _) (Try.siz27 _) rfl)) ⟨_, _, _, rfl, ⟨hxT, hxH, TbAt.nil _ _ _ _ _, hxL, fun i hi => exT_sz i hi, fun i hi => exH_sz i hi⟩, G⟩
set_option maxRecDepth 100000 in
set_option maxHeartbeats 400000 in
theorem works_any (w : World) :
  Calls Try.prog 16 #[] w fun e w' => e = .returned (.bool true) ∧ Gr w w' := by
 have G := Gr.refl w
 refine Y.calls 33 Try.func16 rfl rfl ?_
 intro ac F0
 have F : Fr ac 33 [] := F0.sub _
 clear F0
 refine Y.sg F [] (Y.pv F (X.assign rfl (X.kc (.bool false) rfl)) fun ac F=>Y.fin F) ?_;clear F ac;intro ac F
 refine Y.sl ?_
 refine Y.pcall F (X.w0 rfl) rfl (X.enter (F := 51) rfl (X.kc (.func (.func 51) #[] #[]) rfl) rfl (enters_of Try.func51 (by kernel_rfl) rfl _)) (example_any w) ?_
 clear F ac
 rintro e w3 ⟨ta, ha, la, rfl, hP0, g⟩
 refine ⟨_, rfl, ?_⟩
 intro ac F
 replace G := G.trans g
 clear g
 have hP := hP0
 refine Y.pc F 22 (X.a1 (F.ev 5 (.agg #[.slice ta 2 2, .slice ha 2 2, .slice none 0 0, .slice la 1 1]))) Try.func22 (best_any exP ta ha none la 2 2 0 1 w3 hP) ?_
 clear F ac
 rintro e w4 ⟨a9, c9, rfl, hI, -, g⟩
 rw [ex_best] at hI
 refine ⟨_, rfl, ?_⟩
 rw [ex_best]
 intro ac F
 replace G := G.trans g
 clear g
 obtain ⟨ad, rfl, -, hc0⟩ := hI.at (j := 0) (by decide)
 obtain ⟨ad2, e2, -, hc1⟩ := hI.at (j := 1) (by decide)
 injection e2 with e2
 subst e2
 have hC : RCells w4 [(ad.add 0, Vi 1), (ad.add 1, Vi 0)] := (RCells.cons hc0 (RCells.cons hc1 (RCells.nil _)))
 refine Y.pv F (X.move rfl (F.ev 6 (.tuple #[.slice (some ad) 2 c9, Vi 20, Vi 0]))) ?_;clear F ac;intro ac F
 refine Y.pv F (X.extract rfl (F.ev 4 (.tuple #[.slice (some ad) 2 c9, Vi 20, Vi 0])) rfl) ?_;clear F ac;intro ac F
 refine Y.pv F (X.extract rfl (F.ev 4 (.tuple #[.slice (some ad) 2 c9, Vi 20, Vi 0])) rfl) ?_;clear F ac;intro ac F
 refine Y.pv F (X.extract rfl (F.ev 4 (.tuple #[.slice (some ad) 2 c9, Vi 20, Vi 0])) rfl) ?_;clear F ac;intro ac F
 refine Y.pv F (X.assign rfl (F.ev 7 (.slice (some ad) 2 c9))) ?_;clear F ac;intro ac F
 refine Y.pv F (X.assign rfl (F.ev 8 (Vi 20))) ?_;clear F ac;intro ac F
 refine Y.pv F (X.assign rfl (F.ev 9 (Vi 0))) ?_;clear F ac;intro ac F
 refine Y.nt F [(1, .slice (some ad) 2 c9), (2, Vi 20), (3, Vi 0)] ?_;clear F ac;intro ac F
 refine Y.sg F [(0, .bool true)] (by
  refine Y.pv F (X.move rfl (F.ev 3 (Vi 0))) fun ac F=>?_
  refine Y.pval F (X.w0 rfl) rfl (X.binop rfl (F.ev 10 (Vi 0)) (X.kc (Vi 0) rfl) (X.eqlI Try.underlying31 (show ((0 : Int) == 0) = true by simp))) fun ac F=>?_
  refine Y.pv F (X.move rfl (F.ev 11 (.bool true))) fun ac F=>?_
  refine Y.pg F 2 12 true (X.move rfl (F.ev 2 (Vi 20))) fun ac F=>?_
  refine Y.pg F 2 12 true (X.binop rfl (F.ev 13 (Vi 20)) (X.kc (Vi 20) rfl) (X.eqlI Try.underlying3 (show ((20 : Int) == 20) = true by simp))) fun ac F=>?_
  refine Y.pv F (X.pickT rfl (F.ev 12 (.bool true)) (F.ev 14 (.bool true))) fun ac F=>?_
  refine Y.pv F (X.move rfl (F.ev 15 (.bool true))) fun ac F=>?_
  refine Y.pg F 6 16 true (X.move rfl (F.ev 1 (.slice (some ad) 2 c9))) fun ac F=>?_
  refine Y.pg F 6 16 true (X.len1 Try.underlying34 rfl (F.ev 17 (.slice (some ad) 2 c9))) fun ac F=>?_
  refine Y.pg F 6 16 true (X.binop rfl (F.ev 18 (Vi 2)) (X.kc (Vi 2) rfl) (X.eqlI Try.underlying3 (show ((2 : Int) == 2) = true by simp))) fun ac F=>?_
  refine Y.pv F (X.pickT rfl (F.ev 16 (.bool true)) (F.ev 19 (.bool true))) fun ac F=>?_
  refine Y.pv F (X.move rfl (F.ev 20 (.bool true))) fun ac F=>?_
  refine Y.pg F 11 21 true (X.move rfl (F.ev 1 (.slice (some ad) 2 c9))) fun ac F=>?_
  refine Y.pg F 11 21 true (X.index rfl (F.ev 22 (.slice (some ad) 2 c9)) (X.kc (Vi 0) rfl) (X.idx (k := 0) Try.underlying34 (Try.siz3 _) (by omega) (by omega) (by rw [Nat.mul_one]))) fun ac F=>?_
  refine Y.pg F 11 21 true (X.load rfl (F.ev 23 (.pointer (some (ad.add 0)))) (X.ld1 (Try.agg3 _) (hC.at 0 rfl))) fun ac F=>?_
  refine Y.pg F 11 21 true (X.binop rfl (F.ev 24 (Vi 1)) (X.kc (Vi 1) rfl) (X.eqlI Try.underlying3 (show ((1 : Int) == 1) = true by simp))) fun ac F=>?_
  refine Y.pv F (X.pickT rfl (F.ev 21 (.bool true)) (F.ev 25 (.bool true))) fun ac F=>?_
  refine Y.pv F (X.move rfl (F.ev 26 (.bool true))) fun ac F=>?_
  refine Y.pg F 17 27 true (X.move rfl (F.ev 1 (.slice (some ad) 2 c9))) fun ac F=>?_
  refine Y.pg F 17 27 true (X.index rfl (F.ev 28 (.slice (some ad) 2 c9)) (X.kc (Vi 1) rfl) (X.idx (k := 1) Try.underlying34 (Try.siz3 _) (by omega) (by omega) (by rw [Nat.mul_one]))) fun ac F=>?_
  refine Y.pg F 17 27 true (X.load rfl (F.ev 29 (.pointer (some (ad.add 1)))) (X.ld1 (Try.agg3 _) (hC.at 1 rfl))) fun ac F=>?_
  refine Y.pg F 17 27 true (X.binop rfl (F.ev 30 (Vi 0)) (X.kc (Vi 0) rfl) (X.eqlI Try.underlying3 (show ((0 : Int) == 0) = true by simp))) fun ac F=>?_
  refine Y.pv F (X.pickT rfl (F.ev 27 (.bool true)) (F.ev 31 (.bool true))) fun ac F=>?_
  refine Y.pv F (X.assign rfl (F.ev 32 (.bool true))) fun ac F=>?_
  exact Y.fin F) ?_;clear F ac;intro ac F
 refine Y.ret ?_
 exact Y.ret0 (v := .bool true) F (Y.r1 F) ⟨rfl, G⟩
end
end Go.Proofs.Ytodedneanlekdaa
