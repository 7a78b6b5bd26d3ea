/- Several texts of this claim in one file. (1) Contracts: hosted and begun. (2) Contracts: Allowed, Cost, Hopeless, Bound. (3) Contracts: the reference's Allowed, Cost, Hopeless, Bound. -/
import Derived.Test.YtodedneanlekdaaBd8
namespace Go.Proofs.Ytodedneanlekdaa
set_option linter.unusedSimpArgs false
set_option linter.unusedVariables false
section
open Go.RowKit

theorem within_isH (p : Pb) (x : Int) : withinB x 0 ((p.nh : Int) - 1) = isH p x := by
  unfold withinB isH
  congr 1
  rw [decide_eq_decide]; omega
def wbE (wh : Bool) (p : Pb) (xs : List Int) : Int := if wh then whoE p xs else begE p xs
section
variable {p : Pb} {xs : List Int} {wh : Bool}
theorem wb_1 (h : ¬ chkE p = 0) : wbE wh p xs = chkE p := by
  have h1 : begE p xs = chkE p := by unfold begE; rw [if_pos h]
  unfold wbE whoE
  rw [h1, if_pos h]
  split <;> rfl
theorem beg_2 (h : chkE p = 0) (k : p.nt < xs.length ∨ hosB p xs = false) : begE p xs = 33 := by
  unfold begE; rw [if_neg (by rw [h]; decide), if_pos k]
theorem beg_3 (h : chkE p = 0) (k1 : ¬ p.nt < xs.length) (k2 : hosB p xs = true) : begE p xs = 0 := by
  unfold begE; rw [if_neg (by rw [h]; decide), if_neg (by rintro (e | e); exact k1 e; rw [k2] at e; cases e)]
theorem wb_2 (h : chkE p = 0) (k : p.nt < xs.length ∨ hosB p xs = false ∨ (wh = true ∧ xs.length < p.nt)) : wbE wh p xs = 33 := by
  by_cases e : p.nt < xs.length ∨ hosB p xs = false
  · have := beg_2 h e
    unfold wbE whoE
    rw [this]; cases wh <;> rfl
  · have k1 : ¬ p.nt < xs.length := fun x => e (.inl x)
    have k2 : hosB p xs = true := by cases x : hosB p xs with
      | true => rfl
      | false => exact absurd (.inr x) e
    rcases k with k | k | ⟨rfl, k⟩
    · exact absurd k k1
    · rw [k2] at k; cases k
    · unfold wbE whoE
      rw [beg_3 h k1 k2]
      simp [k]
theorem wb_3 (h : chkE p = 0) (k1 : ¬ p.nt < xs.length) (k2 : hosB p xs = true) (k3 : wh = false ∨ ¬ xs.length < p.nt) : wbE wh p xs = 0 := by
  unfold wbE whoE
  rw [beg_3 h k1 k2]
  rcases k3 with rfl | k3
  · rfl
  · simp [k3]
theorem who_1 (h : ¬ begE p xs = 0) : whoE p xs = begE p xs := by unfold whoE; rw [if_pos h]
theorem who_2 (h : begE p xs = 0) (k : xs.length < p.nt) : whoE p xs = 33 := by unfold whoE; rw [if_neg (by rw [h]; decide), if_pos k]
theorem who_3 (h : begE p xs = 0) (k : ¬ xs.length < p.nt) : whoE p xs = 0 := by unfold whoE; rw [if_neg (by rw [h]; decide), if_neg k]
end
def allowV (p : Pb) (xs : List Int) : Bool := decide (whoE p xs = 0) && !hopeB p (tim p) xs
def costV (p : Pb) (xs : List Int) : Int := if whoE p xs = 0 then bndV p xs else 0
section
variable {p : Pb} {xs : List Int}
theorem allow_0 (h : ¬ whoE p xs = 0) : allowV p xs = false := by unfold allowV; rw [decide_eq_false h]; rfl
theorem allow_1 (h : whoE p xs = 0) : allowV p xs = !hopeB p (tim p) xs := by unfold allowV; rw [decide_eq_true h]; rfl
theorem cost_0 (h : ¬ whoE p xs = 0) : costV p xs = 0 := if_neg h
theorem cost_1 (h : whoE p xs = 0) : costV p xs = bndV p xs := if_pos h
theorem hund_100 (p : Pb) : hund p 100 = tim p := by
  funext i; unfold hund tim; omega
end
set_option maxRecDepth 100000 in
set_option maxHeartbeats 400000 in
theorem hos1_any (p : Pb) (ta ha ba la : Option Addr) (tc hc bc lc : Nat) (bp : Nat) (x : Int) (w : World) (hP : PbAt w p ta ha ba la tc hc bc lc) (hq : RCells w [(⟨bp, 0, none⟩, .slice ta p.nt tc), (⟨bp, 1, none⟩, .slice ha p.nh hc), (⟨bp, 2, none⟩, .slice ba p.nb bc), (⟨bp, 3, none⟩, .slice la p.nl lc)]) :
  Calls Try.prog 110 #[Vi x, Vp bp] w fun e w' => e = .returned (.bool (!isH p x)) ∧ Gr w w' := by
 have G := Gr.refl w
 have hpt := hP.t
 have hph := hP.h
 have hpb := hP.b
 have hpl := hP.l
 have hplen := hP.len
 obtain ⟨hn1, hn2, hn3, hn4⟩ := hplen
 have hcp1 := hpt.cap
 have hcp2 := hph.cap
 have hcp3 := hpb.cap
 have hcp4 := hpl.cap
 have hC := hq
 refine Y.calls 11 Try.func110 rfl rfl ?_
 intro ac F0
 have F : Fr ac 11 [(0, Vi x), (1, Vp bp)] := F0.sub _
 clear F0
 refine Y.seq ?_
 refine Y.lit (by kernel_rfl) ?_
 refine Y.pv F (X.assign rfl (X.kc (.bool false) rfl)) ?_;clear F ac;intro ac F
 refine Y.nil ?_
 replace F : Fr ac 11 [(0, Vi x), (1, Vp bp)] := F.sub _
 refine X.thenN ?_
 refine Y.seq ?_
 refine Y.lit (by kernel_rfl) ?_
 refine Y.pv F (X.move rfl (F.ev 0 (Vi x))) ?_;clear F ac;intro ac F
 refine Y.pv F (X.field rfl (F.ev 1 (Vp bp)) (X.fld Try.underlying27 rfl (Try.siz23 _) rfl rfl)) ?_;clear F ac;intro ac F
 refine Y.pv F (X.load rfl (F.ev 5 (.pointer (some ⟨bp, 1, none⟩))) (X.ld1 (Try.agg23 _) (hC.at 1 rfl))) ?_;clear F ac;intro ac F
 refine Y.pv F (X.len1 Try.underlying23 rfl (F.ev 6 (.slice ha p.nh hc))) ?_;clear F ac;intro ac F
 refine Y.pv F (X.binop rfl (F.ev 7 (Vi p.nh)) (X.kc (Vi 1) rfl) (X.subI Try.underlying3 rfl (by omega) (by omega))) ?_;clear F ac;intro ac F
 refine Y.pcall F (X.w0 rfl) rfl (X.enter (F := 56) rfl (X.kc (.func (.func 56) #[] #[]) rfl) (X.a3 (F.ev 4 (Vi x)) (X.kc (Vi 0) rfl) (F.ev 8 (Vi ((p.nh : Int) - 1)))) (enters_of Try.func56 (by kernel_rfl) rfl _)) (within_any x 0 ((p.nh : Int) - 1) w) ?_
 clear F ac
 rintro e w' ⟨rfl, hw_⟩
 obtain rfl : w = w' := hw_.symm
 clear hw_
 refine ⟨_, rfl, ?_⟩
 intro ac F
 refine Y.pv F (X.notB rfl (F.ev 9 (.bool (withinB x 0 ((p.nh : Int) - 1)))) rfl) ?_;clear F ac;intro ac F
 refine Y.pv F (X.assign rfl (F.ev 10 (.bool (!(withinB x 0 ((p.nh : Int) - 1)))))) ?_;clear F ac;intro ac F
 refine Y.nil ?_
 replace F : Fr ac 11 [(3, .bool (!(withinB x 0 ((p.nh : Int) - 1))))] := F.sub _
 refine X.thenN ?_
 refine Y.ret ?_
 exact Y.ret0 (v := .bool (!(withinB x 0 ((p.nh : Int) - 1)))) F (Y.rs1 F rfl (by kernel_rfl)) ⟨by rw [within_isH], G⟩
set_option maxRecDepth 100000 in
set_option maxHeartbeats 400000 in
theorem idx115_any (p : Pb) (ta ha ba la : Option Addr) (tc hc bc lc : Nat) (a : Option Addr) (c : Nat) (xs : List Int) (bp : Nat) (w : World) (hP : PbAt w p ta ha ba la tc hc bc lc) (hX : Ints w a xs.length xs) (hq : RCells w [(⟨bp, 0, none⟩, .slice ta p.nt tc), (⟨bp, 1, none⟩, .slice ha p.nh hc), (⟨bp, 2, none⟩, .slice ba p.nb bc), (⟨bp, 3, none⟩, .slice la p.nl lc)]) :
  Calls Try.prog 115 #[.slice a xs.length c, .func (.func 110) #[] #[Vp bp]] w fun e w' => e = .returned (Vi (firI (fun i => !isH p (xs[i]?.getD 0)) xs.length)) ∧ Gr w w' := by
 have G := Gr.refl w
 have hpt := hP.t
 have hph := hP.h
 have hpb := hP.b
 have hpl := hP.l
 have hplen := hP.len
 obtain ⟨hn1, hn2, hn3, hn4⟩ := hplen
 have hcp1 := hpt.cap
 have hcp2 := hph.cap
 have hcp3 := hpb.cap
 have hcp4 := hpl.cap
 have hxs := hX
 have hlt := hxs.lt
 have hC := hq
 refine Y.calls 19 Try.func115 rfl rfl ?_
 intro ac F0
 have F : Fr ac 19 [(0, .slice a xs.length c), (1, .func (.func 110) #[] #[Vp bp])] := F0.sub _
 clear F0
 refine Y.seq ?_
 refine Y.lit (by kernel_rfl) ?_
 refine Y.pv F (X.assign rfl (X.kc (Vi 0) rfl)) ?_;clear F ac;intro ac F
 refine Y.nil ?_
 replace F : Fr ac 19 [(0, .slice a xs.length c), (1, .func (.func 110) #[] #[Vp bp])] := F.sub _
 refine X.thenN ?_
 refine Y.seq ?_
 refine Y.seq ?_
 refine Y.lit (by kernel_rfl) ?_
 refine Y.pv F (X.move rfl (F.ev 0 (.slice a xs.length c))) ?_;clear F ac;intro ac F
 refine Y.pv F (X.len1 Try.underlying34 rfl (F.ev 6 (.slice a xs.length c))) ?_;clear F ac;intro ac F
 refine Y.pv F (X.move rfl (X.kc (Vi 0) rfl)) ?_;clear F ac;intro ac F
 refine Y.nil ?_
 replace F : Fr ac 19 [(0, .slice a xs.length c), (1, .func (.func 110) #[] #[Vp bp]), (7, Vi xs.length), (8, Vi 0)] := F.sub _
 refine X.thenN ?_
 refine Y.block ?_
 have hptB := hpt
 have hphB := hph
 have hpbB := hpb
 have hplB := hpl
 have hxsB := hxs
 have hCB := hC
 have GB := G
 refine Y.loop (fun me_ ac wr => ∃ (i : Nat), me_ = xs.length - i ∧ Gr w wr ∧ i ≤ xs.length ∧ allN (fun i => !(!isH p (xs[i]?.getD 0))) i = true ∧ Fr ac 19 [(0, .slice a xs.length c), (1, .func (.func 110) #[] #[Vp bp]), (7, Vi xs.length), (8, Vi i)]) _ ⟨0, rfl, Gr.refl _, Nat.zero_le _, rfl, F.sub _⟩ ?_
 clear F
 intro me_ ac w3 hI
 obtain ⟨i, rfl, gr, hi0, hok, F⟩ := hI
 replace G := GB.trans gr
 replace hC := hCB.gr gr
 replace hpt := hptB.gr gr
 replace hph := hphB.gr gr
 replace hpb := hpbB.gr gr
 replace hpl := hplB.gr gr
 replace hxs := hxsB.gr gr
 have GB_ := gr
 clear gr
 refine Y.seq ?_
 refine Y.lit (by kernel_rfl) ?_
 refine Y.pv F (X.binop rfl (F.ev 8 (Vi i)) (F.ev 7 (Vi xs.length)) (X.lssI Try.underlying3 rfl)) ?_;clear F ac;intro ac F
 refine Y.nil ?_
 replace F : Fr ac 19 [(0, .slice a xs.length c), (1, .func (.func 110) #[] #[Vp bp]), (7, Vi xs.length), (8, Vi i), (9, .bool (decide ((i : Int) < xs.length)))] := F.sub _
 refine X.thenN ?_
 refine Y.seq ?_
 cases h4 : decide ((i : Int) < xs.length) with
 | false =>
  try rw [h4] at F
  have h4p : ¬ ((i : Int) < xs.length) := of_decide_eq_false h4
  obtain rfl : i = xs.length := by omega
  refine Y.condF (F.ev 9 (.bool false)) ?_
  refine Y.exit ?_
  refine X.thenX ?_
  refine X.thenX ?_
  refine X.blockX ?_
  refine X.thenN ?_
  refine Y.seq ?_
  refine Y.lit (by kernel_rfl) ?_
  refine Y.pv F (X.assign rfl (X.kc (Vi (-1)) rfl)) ?_;clear F ac;intro ac F
  refine Y.nil ?_
  replace F : Fr ac 19 [(4, Vi (-1))] := F.sub _
  refine X.thenN ?_
  refine Y.ret ?_
  exact Y.ret0 (v := Vi (-1)) F (Y.rs1 F rfl (by kernel_rfl)) ⟨ret_int ((firI_none hok).symm), G⟩
 | true =>
  try rw [h4] at F
  have h4p : ((i : Int) < xs.length) := of_decide_eq_true h4
  have hi : i < xs.length := by omega
  refine Y.condT (F.ev 9 (.bool true)) ?_
  refine Y.skip ?_
  refine X.thenN ?_
  refine Y.seq ?_
  refine Y.block ?_
  refine Y.seq ?_
  refine Y.lit (by kernel_rfl) ?_
  refine Y.pv F (X.move rfl (F.ev 8 (Vi i))) ?_;clear F ac;intro ac F
  refine Y.pv F (X.assign rfl (F.ev 10 (Vi i))) ?_;clear F ac;intro ac F
  refine Y.nil ?_
  replace F : Fr ac 19 [(0, .slice a xs.length c), (1, .func (.func 110) #[] #[Vp bp]), (5, Vi i), (7, Vi xs.length), (8, Vi i)] := F.sub _
  refine X.thenN ?_
  refine Y.seq ?_
  refine Y.lit (by kernel_rfl) ?_
  refine Y.pv F (X.move rfl (F.ev 1 (.func (.func 110) #[] #[Vp bp]))) ?_;clear F ac;intro ac F
  refine Y.pv F (X.move rfl (F.ev 0 (.slice a xs.length c))) ?_;clear F ac;intro ac F
  refine Y.pv F (X.move rfl (F.ev 5 (Vi i))) ?_;clear F ac;intro ac F
  obtain ⟨pd5, pe5, -, pc5⟩ := hxs.at (j := i) (by omega)
  subst pe5
  replace hC : RCells w3 [(Ad bp 0, .slice ta p.nt tc), (Ad bp 1, .slice ha p.nh hc), (Ad bp 2, .slice ba p.nb bc), (Ad bp 3, .slice la p.nl lc), (pd5.add i, Vi (xs[i]?.getD 0))] := hC.append ((RCells.cons pc5 (RCells.nil _)))
  clear pc5
  refine Y.pval F (X.w0 rfl) rfl (X.index rfl (F.ev 12 (.slice (some pd5) xs.length c)) (F.ev 13 (Vi i)) (X.idx (k := i) Try.underlying34 (Try.siz3 _) (by omega) (by omega) (by rw [Nat.mul_one]))) ?_;clear F ac;intro ac F
  refine Y.pv F (X.load rfl (F.ev 14 (.pointer (some (pd5.add i)))) (X.ld1 (Try.agg3 _) (hC.at 4 rfl))) ?_;clear F ac;intro ac F
  refine Y.pcall F (X.w0 rfl) rfl (X.enter (F := 110) rfl (F.ev 11 (.func (.func 110) #[] #[Vp bp])) (X.a1 (F.ev 15 (Vi (xs[i]?.getD 0)))) (enters_of Try.func110 (by kernel_rfl) rfl _)) (hos1_any p ta ha ba la tc hc bc lc bp (xs[i]?.getD 0) w3 (hP.gr G) (hq.gr G)) ?_
  clear F ac
  rintro e w6 ⟨rfl, g⟩
  refine ⟨_, rfl, ?_⟩
  intro ac F
  replace G := G.trans g
  replace hC := hC.gr g
  replace GB_ := GB_.trans g
  replace hpt := hpt.gr g
  replace hph := hph.gr g
  replace hpb := hpb.gr g
  replace hpl := hpl.gr g
  replace hxs := hxs.gr g
  clear g
  refine Y.nil ?_
  replace F : Fr ac 19 [(0, .slice (some pd5) xs.length c), (1, .func (.func 110) #[] #[Vp bp]), (5, Vi i), (7, Vi xs.length), (8, Vi i), (16, .bool (!isH p (xs[i]?.getD 0)))] := F.sub _
  refine X.thenN ?_
  cases h7 : isH p (xs[i]?.getD 0) with
  | false =>
   try rw [h7] at F
   refine Y.condT (F.ev 16 (.bool true)) ?_
   refine Y.seq ?_
   refine Y.lit (by kernel_rfl) ?_
   refine Y.pv F (X.move rfl (F.ev 5 (Vi i))) ?_;clear F ac;intro ac F
   refine Y.pv F (X.assign rfl (F.ev 17 (Vi i))) ?_;clear F ac;intro ac F
   refine Y.nil ?_
   replace F : Fr ac 19 [(4, Vi i)] := F.sub _
   refine X.thenN ?_
   refine Y.ret ?_
   refine X.blockR ?_
   refine X.thenR ?_
   refine X.thenR ?_
   refine X.blockR ?_
   refine X.thenR ?_
   exact Y.ret0 (v := Vi i) F (Y.rs1 F rfl (by kernel_rfl)) ⟨ret_int ((firI_some (f := fun i => !isH p (xs[i]?.getD 0)) hi hok (by simp [h7])).symm), G⟩
  | true =>
   try rw [h7] at F
   refine Y.condF (F.ev 16 (.bool false)) ?_
   refine Y.skip ?_
   refine X.blockN ?_
   refine X.thenN ?_
   refine Y.lit (by kernel_rfl) ?_
   refine Y.pv F (X.binop rfl (F.ev 8 (Vi i)) (X.kc (Vi 1) rfl) (X.addI Try.underlying3 rfl (by omega) (by omega))) ?_;clear F ac;intro ac F
   refine Y.pv F (X.move rfl (F.ev 18 (Vi ((i : Int) + 1)))) ?_;clear F ac;intro ac F
   refine Y.nil ?_
   replace F : Fr ac 19 [(0, .slice (some pd5) xs.length c), (1, .func (.func 110) #[] #[Vp bp]), (7, Vi xs.length), (8, Vi ((i : Int) + 1))] := F.sub _
   refine X.thenN ?_
   refine ⟨_, ?_, i + 1, rfl, GB_, by omega, allN_succ hok (by simp [h7]), F.sub _⟩
   omega
set_option maxRecDepth 100000 in
set_option maxHeartbeats 400000 in
theorem con94_any (p : Pb) (ta ha ba la : Option Addr) (tc hc bc lc : Nat) (a : Option Addr) (c : Nat) (xs : List Int) (bp : Nat) (w : World) (hP : PbAt w p ta ha ba la tc hc bc lc) (hX : Ints w a xs.length xs) (hq : RCells w [(⟨bp, 0, none⟩, .slice ta p.nt tc), (⟨bp, 1, none⟩, .slice ha p.nh hc), (⟨bp, 2, none⟩, .slice ba p.nb bc), (⟨bp, 3, none⟩, .slice la p.nl lc)]) :
  Calls Try.prog 94 #[.slice a xs.length c, .func (.func 110) #[] #[Vp bp]] w fun e w' => e = .returned (.bool (!hosB p xs)) ∧ Gr w w' := by
 have G := Gr.refl w
 have hpt := hP.t
 have hph := hP.h
 have hpb := hP.b
 have hpl := hP.l
 have hplen := hP.len
 obtain ⟨hn1, hn2, hn3, hn4⟩ := hplen
 have hcp1 := hpt.cap
 have hcp2 := hph.cap
 have hcp3 := hpb.cap
 have hcp4 := hpl.cap
 have hxs := hX
 have hlt := hxs.lt
 have hC := hq
 refine Y.calls 9 Try.func94 rfl rfl ?_
 intro ac F0
 have F : Fr ac 9 [(0, .slice a xs.length c), (1, .func (.func 110) #[] #[Vp bp])] := F0.sub _
 clear F0
 refine Y.seq ?_
 refine Y.lit (by kernel_rfl) ?_
 refine Y.pv F (X.assign rfl (X.kc (.bool false) rfl)) ?_;clear F ac;intro ac F
 refine Y.nil ?_
 replace F : Fr ac 9 [(0, .slice a xs.length c), (1, .func (.func 110) #[] #[Vp bp])] := F.sub _
 refine X.thenN ?_
 refine Y.seq ?_
 refine Y.lit (by kernel_rfl) ?_
 refine Y.pv F (X.move rfl (F.ev 0 (.slice a xs.length c))) ?_;clear F ac;intro ac F
 refine Y.pv F (X.move rfl (F.ev 1 (.func (.func 110) #[] #[Vp bp]))) ?_;clear F ac;intro ac F
 refine Y.pcall F (X.w0 rfl) rfl (X.enter (F := 115) rfl (X.kc (.func (.func 115) #[] #[]) rfl) (X.a2 (F.ev 5 (.slice a xs.length c)) (F.ev 6 (.func (.func 110) #[] #[Vp bp]))) (enters_of Try.func115 (by kernel_rfl) rfl _)) (idx115_any p ta ha ba la tc hc bc lc a c xs bp w (hP.gr G) (hX.gr G) (hq.gr G)) ?_
 clear F ac
 rintro e w3 ⟨rfl, g⟩
 refine ⟨_, rfl, ?_⟩
 intro ac F
 replace G := G.trans g
 replace hC := hC.gr g
 replace hpt := hpt.gr g
 replace hph := hph.gr g
 replace hpb := hpb.gr g
 replace hpl := hpl.gr g
 replace hxs := hxs.gr g
 clear g
 refine Y.pv F (X.binop rfl (F.ev 7 (Vi (firI (fun i => !isH p (xs[i]?.getD 0)) xs.length))) (X.kc (Vi 0) rfl) (X.geqI Try.underlying3 rfl)) ?_;clear F ac;intro ac F
 refine Y.pv F (X.assign rfl (F.ev 8 (.bool (decide ((0 : Int) ≤ (firI (fun i => !isH p (xs[i]?.getD 0)) xs.length)))))) ?_;clear F ac;intro ac F
 refine Y.nil ?_
 replace F : Fr ac 9 [(4, .bool (decide ((0 : Int) ≤ (firI (fun i => !isH p (xs[i]?.getD 0)) xs.length))))] := F.sub _
 refine X.thenN ?_
 refine Y.ret ?_
 exact Y.ret0 (v := .bool (decide ((0 : Int) ≤ (firI (fun i => !isH p (xs[i]?.getD 0)) xs.length)))) F (Y.rs1 F rfl (by kernel_rfl)) ⟨by rw [firI_any (f := fun i => !isH p (xs[i]?.getD 0)), not_notB]; rfl, G⟩
set_option maxRecDepth 100000 in
set_option maxHeartbeats 400000 in
theorem hosted_any (p : Pb) (ta ha ba la : Option Addr) (tc hc bc lc : Nat) (a : Option Addr) (c : Nat) (xs : List Int) (w : World) (hP : PbAt w p ta ha ba la tc hc bc lc) (hX : Ints w a xs.length xs) :
  Calls Try.prog 88 #[.agg #[.slice ta p.nt tc, .slice ha p.nh hc, .slice ba p.nb bc, .slice la p.nl lc], .slice a xs.length c] w fun e w' => e = .returned (.bool (hosB p xs)) ∧ Gr w w' := by
 have G := Gr.refl w
 have hpt := hP.t
 have hph := hP.h
 have hpb := hP.b
 have hpl := hP.l
 have hplen := hP.len
 obtain ⟨hn1, hn2, hn3, hn4⟩ := hplen
 have hcp1 := hpt.cap
 have hcp2 := hph.cap
 have hcp3 := hpb.cap
 have hcp4 := hpl.cap
 have hxs := hX
 have hlt := hxs.lt
 refine Y.calls 9 Try.func88 rfl rfl ?_
 intro ac F0
 have F : Fr ac 9 [(0, .agg #[.slice ta p.nt tc, .slice ha p.nh hc, .slice ba p.nb bc, .slice la p.nl lc]), (1, .slice a xs.length c)] := F0.sub _
 clear F0
 refine Y.seq ?_
 refine Y.lit (by kernel_rfl) ?_
 have hgs3 : w.heap.size ≤ w.heap.size := G.size
 refine Y.pv F (X.box rfl (F.ev 0 (.agg #[.slice ta p.nt tc, .slice ha p.nh hc, .slice ba p.nb bc, .slice la p.nl lc])) X.bx) ?_;clear F ac;intro ac F
 have hgs5 : w.heap.size ≤ w.heap.size := G.size
 have g := Gr.alloc w (.cells #[.slice ta p.nt tc, .slice ha p.nh hc, .slice ba p.nb bc, .slice la p.nl lc] 27)
 have hb := heap_alloc_new w (.cells #[.slice ta p.nt tc, .slice ha p.nh hc, .slice ba p.nb bc, .slice la p.nl lc] 27)
 have hbl : w.heap.size < (w.alloc (.cells #[.slice ta p.nt tc, .slice ha p.nh hc, .slice ba p.nb bc, .slice la p.nl lc] 27)).heap.size := by simp
 have hC2 : RCells (w.alloc (.cells #[.slice ta p.nt tc, .slice ha p.nh hc, .slice ba p.nb bc, .slice la p.nl lc] 27)) [(Ad w.heap.size 0, .slice ta p.nt tc), (Ad w.heap.size 1, .slice ha p.nh hc), (Ad w.heap.size 2, .slice ba p.nb bc), (Ad w.heap.size 3, .slice la p.nl lc)] := (RCells.nil w).box (b := w.heap.size) #[.slice ta p.nt tc, .slice ha p.nh hc, .slice ba p.nb bc, .slice la p.nl lc] 27 rfl
 generalize w.alloc (.cells #[.slice ta p.nt tc, .slice ha p.nh hc, .slice ba p.nb bc, .slice la p.nl lc] 27) = w6 at *
 replace G := G.trans g
 have hC := hC2
 clear hC2
 replace hpt := hpt.gr g
 replace hph := hph.gr g
 replace hpb := hpb.gr g
 replace hpl := hpl.gr g
 replace hxs := hxs.gr g
 have hsz4 := hbl
 clear g hb hbl
 refine Y.pv F (X.assign rfl (X.kc (.bool false) rfl)) ?_;clear F ac;intro ac F
 refine Y.nil ?_
 replace F : Fr ac 9 [(1, .slice a xs.length c), (2, Vp w.heap.size)] := F.sub _
 refine X.thenN ?_
 refine Y.seq ?_
 refine Y.lit (by kernel_rfl) ?_
 refine Y.pv F (X.move rfl (F.ev 1 (.slice a xs.length c))) ?_;clear F ac;intro ac F
 refine Y.pv F (Y.fnc rfl (Y.m1 (F.ev 2 (Vp w.heap.size)))) ?_;clear F ac;intro ac F
 refine Y.pcall F (X.w0 rfl) rfl (X.enter (F := 94) rfl (X.kc (.func (.func 94) #[] #[]) rfl) (X.a2 (F.ev 5 (.slice a xs.length c)) (F.ev 6 (.func (.func 110) #[] #[Vp w.heap.size]))) (enters_of Try.func94 (by kernel_rfl) rfl _)) (con94_any p ta ha ba la tc hc bc lc a c xs w.heap.size w6 (hP.gr G) (hX.gr G) ((RCells.cons (hC.at 0 rfl) (RCells.cons (hC.at 1 rfl) (RCells.cons (hC.at 2 rfl) (RCells.cons (hC.at 3 rfl) (RCells.nil _))))))) ?_
 clear F ac
 rintro e w7 ⟨rfl, g⟩
 refine ⟨_, rfl, ?_⟩
 intro ac F
 replace G := G.trans g
 replace hC := hC.gr g
 replace hpt := hpt.gr g
 replace hph := hph.gr g
 replace hpb := hpb.gr g
 replace hpl := hpl.gr g
 replace hxs := hxs.gr g
 clear g
 refine Y.pv F (X.notB rfl (F.ev 7 (.bool (!hosB p xs))) rfl) ?_;clear F ac;intro ac F
 refine Y.pv F (X.assign rfl (F.ev 8 (.bool (!(!hosB p xs))))) ?_;clear F ac;intro ac F
 refine Y.nil ?_
 replace F : Fr ac 9 [(4, .bool (!(!hosB p xs)))] := F.sub _
 refine X.thenN ?_
 refine Y.ret ?_
 exact Y.ret0 (v := .bool (!(!hosB p xs))) F (Y.rs1 F rfl (by kernel_rfl)) ⟨by rw [Bool.not_not], G⟩
set_option maxRecDepth 100000 in
set_option maxHeartbeats 1000000 in
theorem begun_any (p : Pb) (ta ha ba la : Option Addr) (tc hc bc lc : Nat) (a : Option Addr) (c : Nat) (xs : List Int) (wh : Bool) (w : World) (hP : PbAt w p ta ha ba la tc hc bc lc) (hX : Ints w a xs.length xs) :
  Calls Try.prog 71 #[.agg #[.slice ta p.nt tc, .slice ha p.nh hc, .slice ba p.nb bc, .slice la p.nl lc], .slice a xs.length c, .bool wh] w fun e w' => e = .returned (Vi (wbE wh p xs)) ∧ Gr w w' := by
 have G := Gr.refl w
 have hpt := hP.t
 have hph := hP.h
 have hpb := hP.b
 have hpl := hP.l
 have hplen := hP.len
 obtain ⟨hn1, hn2, hn3, hn4⟩ := hplen
 have hcp1 := hpt.cap
 have hcp2 := hph.cap
 have hcp3 := hpb.cap
 have hcp4 := hpl.cap
 have hxs := hX
 have hlt := hxs.lt
 refine Y.calls 36 Try.func71 rfl rfl ?_
 intro ac F0
 have F : Fr ac 36 [(0, .agg #[.slice ta p.nt tc, .slice ha p.nh hc, .slice ba p.nb bc, .slice la p.nl lc]), (1, .slice a xs.length c), (2, .bool wh)] := F0.sub _
 clear F0
 refine Y.seq ?_
 refine Y.lit (by kernel_rfl) ?_
 have hgs3 : w.heap.size ≤ w.heap.size := G.size
 refine Y.pv F (X.box rfl (F.ev 0 (.agg #[.slice ta p.nt tc, .slice ha p.nh hc, .slice ba p.nb bc, .slice la p.nl lc])) X.bx) ?_;clear F ac;intro ac F
 have hgs5 : w.heap.size ≤ w.heap.size := G.size
 have g := Gr.alloc w (.cells #[.slice ta p.nt tc, .slice ha p.nh hc, .slice ba p.nb bc, .slice la p.nl lc] 27)
 have hb := heap_alloc_new w (.cells #[.slice ta p.nt tc, .slice ha p.nh hc, .slice ba p.nb bc, .slice la p.nl lc] 27)
 have hbl : w.heap.size < (w.alloc (.cells #[.slice ta p.nt tc, .slice ha p.nh hc, .slice ba p.nb bc, .slice la p.nl lc] 27)).heap.size := by simp
 have hC2 : RCells (w.alloc (.cells #[.slice ta p.nt tc, .slice ha p.nh hc, .slice ba p.nb bc, .slice la p.nl lc] 27)) [(Ad w.heap.size 0, .slice ta p.nt tc), (Ad w.heap.size 1, .slice ha p.nh hc), (Ad w.heap.size 2, .slice ba p.nb bc), (Ad w.heap.size 3, .slice la p.nl lc)] := (RCells.nil w).box (b := w.heap.size) #[.slice ta p.nt tc, .slice ha p.nh hc, .slice ba p.nb bc, .slice la p.nl lc] 27 rfl
 generalize w.alloc (.cells #[.slice ta p.nt tc, .slice ha p.nh hc, .slice ba p.nb bc, .slice la p.nl lc] 27) = w6 at *
 replace G := G.trans g
 have hC := hC2
 clear hC2
 replace hpt := hpt.gr g
 replace hph := hph.gr g
 replace hpb := hpb.gr g
 replace hpl := hpl.gr g
 replace hxs := hxs.gr g
 have hsz4 := hbl
 clear g hb hbl
 refine Y.pv F (X.assign rfl (X.kc (Vi 0) rfl)) ?_;clear F ac;intro ac F
 refine Y.nil ?_
 replace F : Fr ac 36 [(1, .slice a xs.length c), (2, .bool wh), (3, Vp w.heap.size)] := F.sub _
 refine X.thenN ?_
 refine Y.seq ?_
 refine Y.seq ?_
 refine Y.lit (by kernel_rfl) ?_
 refine Y.pv F (X.load rfl (F.ev 3 (Vp w.heap.size)) (X.ldN (Try.agg27 _) (Try.siz27 _) (Y.atz (⟨w.heap.size, 0, none⟩) (Y.AtFrom.cons (hC.at 0 rfl) (Y.AtFrom.cons (hC.at 1 rfl) (Y.AtFrom.cons (hC.at 2 rfl) (Y.AtFrom.cons (hC.at 3 rfl) (Y.AtFrom.nil _ _ _)))))))) ?_;clear F ac;intro ac F
 refine Y.pcall F (X.w0 rfl) rfl (X.enter (F := 18) rfl (X.kc (.func (.func 18) #[] #[]) rfl) (X.a1 (F.ev 8 (.agg #[.slice ta p.nt tc, .slice ha p.nh hc, .slice ba p.nb bc, .slice la p.nl lc]))) (enters_of Try.func18 (by kernel_rfl) rfl _)) (check_any p ta ha ba la tc hc bc lc w6 (hP.gr G)) ?_
 clear F ac
 rintro e w7 ⟨rfl, g⟩
 refine ⟨_, rfl, ?_⟩
 intro ac F
 replace G := G.trans g
 replace hC := hC.gr g
 replace hpt := hpt.gr g
 replace hph := hph.gr g
 replace hpb := hpb.gr g
 replace hpl := hpl.gr g
 replace hxs := hxs.gr g
 clear g
 refine Y.pv F (X.assign rfl (F.ev 9 (Vi (chkE p)))) ?_;clear F ac;intro ac F
 refine Y.nil ?_
 replace F : Fr ac 36 [(1, .slice a xs.length c), (2, .bool wh), (3, Vp w.heap.size), (7, Vi (chkE p))] := F.sub _
 refine X.thenN ?_
 refine Y.seq ?_
 refine Y.lit (by kernel_rfl) ?_
 refine Y.pv F (X.move rfl (F.ev 7 (Vi (chkE p)))) ?_;clear F ac;intro ac F
 refine Y.pv F (X.binop rfl (F.ev 10 (Vi (chkE p))) (X.kc (Vi 0) rfl) (X.neqI Try.underlying31 rfl)) ?_;clear F ac;intro ac F
 refine Y.nil ?_
 replace F : Fr ac 36 [(1, .slice a xs.length c), (2, .bool wh), (3, Vp w.heap.size), (7, Vi (chkE p)), (11, .bool ((chkE p : Int) != 0))] := F.sub _
 refine X.thenN ?_
 cases h8 : ((chkE p : Int) != 0) with
 | false =>
  try rw [h8] at F
  have h8p : (chkE p : Int) = 0 := by simpa using h8
  refine Y.condF (F.ev 11 (.bool false)) ?_
  refine Y.skip ?_
  refine X.thenN ?_
  refine Y.seq ?_
  refine Y.seq ?_
  refine Y.lit (by kernel_rfl) ?_
  refine Y.pv F (X.move rfl (F.ev 1 (.slice a xs.length c))) ?_;clear F ac;intro ac F
  refine Y.pv F (X.len1 Try.underlying34 rfl (F.ev 13 (.slice a xs.length c))) ?_;clear F ac;intro ac F
  refine Y.pv F (X.field rfl (F.ev 3 (Vp w.heap.size)) (X.fld Try.underlying27 rfl (Try.siz22 _) rfl rfl)) ?_;clear F ac;intro ac F
  refine Y.pv F (X.load rfl (F.ev 15 (Vp w.heap.size)) (X.ld1 (Try.agg22 _) (hC.at 0 rfl))) ?_;clear F ac;intro ac F
  refine Y.pv F (X.len1 Try.underlying22 rfl (F.ev 16 (.slice ta p.nt tc))) ?_;clear F ac;intro ac F
  refine Y.pv F (X.binop rfl (F.ev 14 (Vi xs.length)) (F.ev 17 (Vi p.nt)) (X.gtrI Try.underlying3 rfl)) ?_;clear F ac;intro ac F
  refine Y.pv F (X.move rfl (F.ev 18 (.bool (decide ((p.nt : Int) < xs.length))))) ?_;clear F ac;intro ac F
  cases h9 : decide ((p.nt : Int) < xs.length) with
  | false =>
   try rw [h9] at F
   have h9p : ¬ ((p.nt : Int) < xs.length) := of_decide_eq_false h9
   refine Y.pval F (X.w1 rfl (F.yl (j := 6) (d := 19) (b := false) rfl (by kernel_rfl))) rfl (X.move rfl (F.ev 2 (.bool wh))) ?_;clear F ac;intro ac F
   refine Y.pval F (X.w1 rfl (F.yl (j := 6) (d := 19) (b := false) rfl (by kernel_rfl))) rfl (X.move rfl (F.ev 20 (.bool wh))) ?_;clear F ac;intro ac F
   cases h10 : wh with
   | false =>
    try rw [h10] at F
    refine Y.pskip F (X.w2 rfl (F.yl (j := 8) (d := 21) (b := false) rfl (by kernel_rfl)) rfl) rfl ?_;clear F ac;intro ac F
    refine Y.pskip F (X.w2 rfl (F.yl (j := 8) (d := 21) (b := false) rfl (by kernel_rfl)) rfl) rfl ?_;clear F ac;intro ac F
    refine Y.pskip F (X.w2 rfl (F.yl (j := 8) (d := 21) (b := false) rfl (by kernel_rfl)) rfl) rfl ?_;clear F ac;intro ac F
    refine Y.pskip F (X.w2 rfl (F.yl (j := 8) (d := 21) (b := false) rfl (by kernel_rfl)) rfl) rfl ?_;clear F ac;intro ac F
    refine Y.pskip F (X.w2 rfl (F.yl (j := 8) (d := 21) (b := false) rfl (by kernel_rfl)) rfl) rfl ?_;clear F ac;intro ac F
    refine Y.pskip F (X.w2 rfl (F.yl (j := 8) (d := 21) (b := false) rfl (by kernel_rfl)) rfl) rfl ?_;clear F ac;intro ac F
    refine Y.pval F (X.w1 rfl (F.yl (j := 6) (d := 19) (b := false) rfl (by kernel_rfl))) rfl (X.pickF rfl (F.ev 21 (.bool false)) (X.kc (.bool false) rfl)) ?_;clear F ac;intro ac F
    refine Y.pv F (X.pickF rfl (F.ev 19 (.bool false)) (F.ev 28 (.bool false))) ?_;clear F ac;intro ac F
    refine Y.pv F (X.move rfl (F.ev 29 (.bool false))) ?_;clear F ac;intro ac F
    refine Y.pval F (X.w1 rfl (F.yl (j := 17) (d := 30) (b := false) rfl (by kernel_rfl))) rfl (X.load rfl (F.ev 3 (Vp w.heap.size)) (X.ldN (Try.agg27 _) (Try.siz27 _) (Y.atz (⟨w.heap.size, 0, none⟩) (Y.AtFrom.cons (hC.at 0 rfl) (Y.AtFrom.cons (hC.at 1 rfl) (Y.AtFrom.cons (hC.at 2 rfl) (Y.AtFrom.cons (hC.at 3 rfl) (Y.AtFrom.nil _ _ _)))))))) ?_;clear F ac;intro ac F
    refine Y.pval F (X.w1 rfl (F.yl (j := 17) (d := 30) (b := false) rfl (by kernel_rfl))) rfl (X.move rfl (F.ev 1 (.slice a xs.length c))) ?_;clear F ac;intro ac F
    refine Y.pcall F (X.w1 rfl (F.yl (j := 17) (d := 30) (b := false) rfl (by kernel_rfl))) rfl (X.enter (F := 88) rfl (X.kc (.func (.func 88) #[] #[]) rfl) (X.a2 (F.ev 31 (.agg #[.slice ta p.nt tc, .slice ha p.nh hc, .slice ba p.nb bc, .slice la p.nl lc])) (F.ev 32 (.slice a xs.length c))) (enters_of Try.func88 (by kernel_rfl) rfl _)) (hosted_any p ta ha ba la tc hc bc lc a c xs w7 (hP.gr G) (hX.gr G)) ?_
    clear F ac
    rintro e w11 ⟨rfl, g⟩
    refine ⟨_, rfl, ?_⟩
    intro ac F
    replace G := G.trans g
    replace hC := hC.gr g
    replace hpt := hpt.gr g
    replace hph := hph.gr g
    replace hpb := hpb.gr g
    replace hpl := hpl.gr g
    replace hxs := hxs.gr g
    clear g
    refine Y.pval F (X.w1 rfl (F.yl (j := 17) (d := 30) (b := false) rfl (by kernel_rfl))) rfl (X.notB rfl (F.ev 33 (.bool (hosB p xs))) rfl) ?_;clear F ac;intro ac F
    refine Y.pv F (X.pickF rfl (F.ev 30 (.bool false)) (F.ev 34 (.bool (!(hosB p xs))))) ?_;clear F ac;intro ac F
    refine Y.nil ?_
    replace F : Fr ac 36 [(35, .bool (!(hosB p xs)))] := F.sub _
    refine X.thenN ?_
    cases h12 : hosB p xs with
    | false =>
     try rw [h12] at F
     refine Y.condT (F.ev 35 (.bool true)) ?_
     refine Y.seq ?_
     refine Y.lit (by kernel_rfl) ?_
     refine Y.pv F (X.assign rfl (X.kc (Vi 33) rfl)) ?_;clear F ac;intro ac F
     refine Y.nil ?_
     replace F : Fr ac 36 [(6, Vi 33)] := F.sub _
     refine X.thenN ?_
     refine Y.ret ?_
     refine X.thenR ?_
     exact Y.ret0 (v := Vi 33) F (Y.rs1 F rfl (by kernel_rfl)) ⟨by rw [wb_2 (by omega) (.inr (.inl h12))], G⟩
    | true =>
     try rw [h12] at F
     refine Y.condF (F.ev 35 (.bool false)) ?_
     refine Y.skip ?_
     refine X.thenN ?_
     refine Y.seq ?_
     refine Y.lit (by kernel_rfl) ?_
     refine Y.pv F (X.assign rfl (X.kc (Vi 0) rfl)) ?_;clear F ac;intro ac F
     refine Y.nil ?_
     replace F : Fr ac 36 [(6, Vi 0)] := F.sub _
     refine X.thenN ?_
     refine Y.ret ?_
     exact Y.ret0 (v := Vi 0) F (Y.rs1 F rfl (by kernel_rfl)) ⟨by rw [wb_3 (by omega) (by omega) h12 (.inl rfl)], G⟩
   | true =>
    try rw [h10] at F
    refine Y.pval F (X.w1 rfl (F.yl (j := 8) (d := 21) (b := true) rfl (by kernel_rfl))) rfl (X.move rfl (F.ev 1 (.slice a xs.length c))) ?_;clear F ac;intro ac F
    refine Y.pval F (X.w1 rfl (F.yl (j := 8) (d := 21) (b := true) rfl (by kernel_rfl))) rfl (X.len1 Try.underlying34 rfl (F.ev 22 (.slice a xs.length c))) ?_;clear F ac;intro ac F
    refine Y.pval F (X.w1 rfl (F.yl (j := 8) (d := 21) (b := true) rfl (by kernel_rfl))) rfl (X.field rfl (F.ev 3 (Vp w.heap.size)) (X.fld Try.underlying27 rfl (Try.siz22 _) rfl rfl)) ?_;clear F ac;intro ac F
    refine Y.pval F (X.w1 rfl (F.yl (j := 8) (d := 21) (b := true) rfl (by kernel_rfl))) rfl (X.load rfl (F.ev 24 (Vp w.heap.size)) (X.ld1 (Try.agg22 _) (hC.at 0 rfl))) ?_;clear F ac;intro ac F
    refine Y.pval F (X.w1 rfl (F.yl (j := 8) (d := 21) (b := true) rfl (by kernel_rfl))) rfl (X.len1 Try.underlying22 rfl (F.ev 25 (.slice ta p.nt tc))) ?_;clear F ac;intro ac F
    refine Y.pval F (X.w1 rfl (F.yl (j := 8) (d := 21) (b := true) rfl (by kernel_rfl))) rfl (X.binop rfl (F.ev 23 (Vi xs.length)) (F.ev 26 (Vi p.nt)) (X.lssI Try.underlying3 rfl)) ?_;clear F ac;intro ac F
    refine Y.pval F (X.w1 rfl (F.yl (j := 6) (d := 19) (b := false) rfl (by kernel_rfl))) rfl (X.pickT rfl (F.ev 21 (.bool true)) (F.ev 27 (.bool (decide ((xs.length : Int) < p.nt))))) ?_;clear F ac;intro ac F
    refine Y.pv F (X.pickF rfl (F.ev 19 (.bool false)) (F.ev 28 (.bool (decide ((xs.length : Int) < p.nt))))) ?_;clear F ac;intro ac F
    refine Y.pv F (X.move rfl (F.ev 29 (.bool (decide ((xs.length : Int) < p.nt))))) ?_;clear F ac;intro ac F
    cases h13 : decide ((xs.length : Int) < p.nt) with
    | false =>
     try rw [h13] at F
     have h13p : ¬ ((xs.length : Int) < p.nt) := of_decide_eq_false h13
     refine Y.pval F (X.w1 rfl (F.yl (j := 17) (d := 30) (b := false) rfl (by kernel_rfl))) rfl (X.load rfl (F.ev 3 (Vp w.heap.size)) (X.ldN (Try.agg27 _) (Try.siz27 _) (Y.atz (⟨w.heap.size, 0, none⟩) (Y.AtFrom.cons (hC.at 0 rfl) (Y.AtFrom.cons (hC.at 1 rfl) (Y.AtFrom.cons (hC.at 2 rfl) (Y.AtFrom.cons (hC.at 3 rfl) (Y.AtFrom.nil _ _ _)))))))) ?_;clear F ac;intro ac F
     refine Y.pval F (X.w1 rfl (F.yl (j := 17) (d := 30) (b := false) rfl (by kernel_rfl))) rfl (X.move rfl (F.ev 1 (.slice a xs.length c))) ?_;clear F ac;intro ac F
     refine Y.pcall F (X.w1 rfl (F.yl (j := 17) (d := 30) (b := false) rfl (by kernel_rfl))) rfl (X.enter (F := 88) rfl (X.kc (.func (.func 88) #[] #[]) rfl) (X.a2 (F.ev 31 (.agg #[.slice ta p.nt tc, .slice ha p.nh hc, .slice ba p.nb bc, .slice la p.nl lc])) (F.ev 32 (.slice a xs.length c))) (enters_of Try.func88 (by kernel_rfl) rfl _)) (hosted_any p ta ha ba la tc hc bc lc a c xs w7 (hP.gr G) (hX.gr G)) ?_
     clear F ac
     rintro e w14 ⟨rfl, g⟩
     refine ⟨_, rfl, ?_⟩
     intro ac F
     replace G := G.trans g
     replace hC := hC.gr g
     replace hpt := hpt.gr g
     replace hph := hph.gr g
     replace hpb := hpb.gr g
     replace hpl := hpl.gr g
     replace hxs := hxs.gr g
     clear g
     refine Y.pval F (X.w1 rfl (F.yl (j := 17) (d := 30) (b := false) rfl (by kernel_rfl))) rfl (X.notB rfl (F.ev 33 (.bool (hosB p xs))) rfl) ?_;clear F ac;intro ac F
     refine Y.pv F (X.pickF rfl (F.ev 30 (.bool false)) (F.ev 34 (.bool (!(hosB p xs))))) ?_;clear F ac;intro ac F
     refine Y.nil ?_
     replace F : Fr ac 36 [(35, .bool (!(hosB p xs)))] := F.sub _
     refine X.thenN ?_
     cases h15 : hosB p xs with
     | false =>
      try rw [h15] at F
      refine Y.condT (F.ev 35 (.bool true)) ?_
      refine Y.seq ?_
      refine Y.lit (by kernel_rfl) ?_
      refine Y.pv F (X.assign rfl (X.kc (Vi 33) rfl)) ?_;clear F ac;intro ac F
      refine Y.nil ?_
      replace F : Fr ac 36 [(6, Vi 33)] := F.sub _
      refine X.thenN ?_
      refine Y.ret ?_
      refine X.thenR ?_
      exact Y.ret0 (v := Vi 33) F (Y.rs1 F rfl (by kernel_rfl)) ⟨by rw [wb_2 (by omega) (.inr (.inl h15))], G⟩
     | true =>
      try rw [h15] at F
      refine Y.condF (F.ev 35 (.bool false)) ?_
      refine Y.skip ?_
      refine X.thenN ?_
      refine Y.seq ?_
      refine Y.lit (by kernel_rfl) ?_
      refine Y.pv F (X.assign rfl (X.kc (Vi 0) rfl)) ?_;clear F ac;intro ac F
      refine Y.nil ?_
      replace F : Fr ac 36 [(6, Vi 0)] := F.sub _
      refine X.thenN ?_
      refine Y.ret ?_
      exact Y.ret0 (v := Vi 0) F (Y.rs1 F rfl (by kernel_rfl)) ⟨by rw [wb_3 (by omega) (by omega) h15 (.inr (by omega))], G⟩
    | true =>
     try rw [h13] at F
     have h13p : ((xs.length : Int) < p.nt) := of_decide_eq_true h13
     refine Y.pskip F (X.w2 rfl (F.yl (j := 17) (d := 30) (b := true) rfl (by kernel_rfl)) rfl) rfl ?_;clear F ac;intro ac F
     refine Y.pskip F (X.w2 rfl (F.yl (j := 17) (d := 30) (b := true) rfl (by kernel_rfl)) rfl) rfl ?_;clear F ac;intro ac F
     refine Y.pskip F (X.w2 rfl (F.yl (j := 17) (d := 30) (b := true) rfl (by kernel_rfl)) rfl) rfl ?_;clear F ac;intro ac F
     refine Y.pskip F (X.w2 rfl (F.yl (j := 17) (d := 30) (b := true) rfl (by kernel_rfl)) rfl) rfl ?_;clear F ac;intro ac F
     refine Y.pv F (X.pickT rfl (F.ev 30 (.bool true)) (X.kc (.bool true) rfl)) ?_;clear F ac;intro ac F
     refine Y.nil ?_
     replace F : Fr ac 36 [(35, .bool true)] := F.sub _
     refine X.thenN ?_
     refine Y.condT (F.ev 35 (.bool true)) ?_
     refine Y.seq ?_
     refine Y.lit (by kernel_rfl) ?_
     refine Y.pv F (X.assign rfl (X.kc (Vi 33) rfl)) ?_;clear F ac;intro ac F
     refine Y.nil ?_
     replace F : Fr ac 36 [(6, Vi 33)] := F.sub _
     refine X.thenN ?_
     refine Y.ret ?_
     refine X.thenR ?_
     exact Y.ret0 (v := Vi 33) F (Y.rs1 F rfl (by kernel_rfl)) ⟨by rw [wb_2 (by omega) (.inr (.inr ⟨rfl, by omega⟩))], G⟩
  | true =>
   try rw [h9] at F
   have h9p : ((p.nt : Int) < xs.length) := of_decide_eq_true h9
   refine Y.pskip F (X.w2 rfl (F.yl (j := 6) (d := 19) (b := true) rfl (by kernel_rfl)) rfl) rfl ?_;clear F ac;intro ac F
   refine Y.pskip F (X.w2 rfl (F.yl (j := 6) (d := 19) (b := true) rfl (by kernel_rfl)) rfl) rfl ?_;clear F ac;intro ac F
   refine Y.pskip F (Y.w3 rfl (F.yn (j := 8) (d := 21) rfl (by kernel_rfl))) rfl ?_;clear F ac;intro ac F
   refine Y.pskip F (Y.w3 rfl (F.yn (j := 8) (d := 21) rfl (by kernel_rfl))) rfl ?_;clear F ac;intro ac F
   refine Y.pskip F (Y.w3 rfl (F.yn (j := 8) (d := 21) rfl (by kernel_rfl))) rfl ?_;clear F ac;intro ac F
   refine Y.pskip F (Y.w3 rfl (F.yn (j := 8) (d := 21) rfl (by kernel_rfl))) rfl ?_;clear F ac;intro ac F
   refine Y.pskip F (Y.w3 rfl (F.yn (j := 8) (d := 21) rfl (by kernel_rfl))) rfl ?_;clear F ac;intro ac F
   refine Y.pskip F (Y.w3 rfl (F.yn (j := 8) (d := 21) rfl (by kernel_rfl))) rfl ?_;clear F ac;intro ac F
   refine Y.pskip F (X.w2 rfl (F.yl (j := 6) (d := 19) (b := true) rfl (by kernel_rfl)) rfl) rfl ?_;clear F ac;intro ac F
   refine Y.pv F (X.pickT rfl (F.ev 19 (.bool true)) (X.kc (.bool true) rfl)) ?_;clear F ac;intro ac F
   refine Y.pv F (X.move rfl (F.ev 29 (.bool true))) ?_;clear F ac;intro ac F
   refine Y.pskip F (X.w2 rfl (F.yl (j := 17) (d := 30) (b := true) rfl (by kernel_rfl)) rfl) rfl ?_;clear F ac;intro ac F
   refine Y.pskip F (X.w2 rfl (F.yl (j := 17) (d := 30) (b := true) rfl (by kernel_rfl)) rfl) rfl ?_;clear F ac;intro ac F
   refine Y.pskip F (X.w2 rfl (F.yl (j := 17) (d := 30) (b := true) rfl (by kernel_rfl)) rfl) rfl ?_;clear F ac;intro ac F
   refine Y.pskip F (X.w2 rfl (F.yl (j := 17) (d := 30) (b := true) rfl (by kernel_rfl)) rfl) rfl ?_;clear F ac;intro ac F
   refine Y.pv F (X.pickT rfl (F.ev 30 (.bool true)) (X.kc (.bool true) rfl)) ?_;clear F ac;intro ac F
   refine Y.nil ?_
   replace F : Fr ac 36 [(35, .bool true)] := F.sub _
   refine X.thenN ?_
   refine Y.condT (F.ev 35 (.bool true)) ?_
   refine Y.seq ?_
   refine Y.lit (by kernel_rfl) ?_
   refine Y.pv F (X.assign rfl (X.kc (Vi 33) rfl)) ?_;clear F ac;intro ac F
   refine Y.nil ?_
   replace F : Fr ac 36 [(6, Vi 33)] := F.sub _
   refine X.thenN ?_
   refine Y.ret ?_
   refine X.thenR ?_
   exact Y.ret0 (v := Vi 33) F (Y.rs1 F rfl (by kernel_rfl)) ⟨by rw [wb_2 (by omega) (.inl (by omega))], G⟩
 | true =>
  try rw [h8] at F
  have h8p : ¬ (chkE p : Int) = 0 := by simpa using h8
  refine Y.condT (F.ev 11 (.bool true)) ?_
  refine Y.seq ?_
  refine Y.lit (by kernel_rfl) ?_
  refine Y.pv F (X.move rfl (F.ev 7 (Vi (chkE p)))) ?_;clear F ac;intro ac F
  refine Y.pv F (X.assign rfl (F.ev 12 (Vi (chkE p)))) ?_;clear F ac;intro ac F
  refine Y.nil ?_
  replace F : Fr ac 36 [(6, Vi (chkE p))] := F.sub _
  refine X.thenN ?_
  refine Y.ret ?_
  refine X.thenR ?_
  exact Y.ret0 (v := Vi (chkE p)) F (Y.rs1 F rfl (by kernel_rfl)) ⟨by rw [wb_1 (by omega)], G⟩
end
section
open Go.RowKit

set_option maxRecDepth 100000 in
set_option maxHeartbeats 1000000 in
theorem allowed_any (p : Pb) (ta ha ba la : Option Addr) (tc hc bc lc : Nat) (a : Option Addr) (c : Nat) (xs : List Int) (w : World) (hP : PbAt w p ta ha ba la tc hc bc lc) (hX : Ints w a xs.length xs) :
  Calls Try.prog 32 #[.agg #[.slice ta p.nt tc, .slice ha p.nh hc, .slice ba p.nb bc, .slice la p.nl lc], .slice a xs.length c] w fun e w' => e = .returned (.tuple #[.bool (allowV p xs), Vi (whoE p xs)]) ∧ Gr w w' := by
 have G := Gr.refl w
 have hpt := hP.t
 have hph := hP.h
 have hpb := hP.b
 have hpl := hP.l
 have hplen := hP.len
 obtain ⟨hn1, hn2, hn3, hn4⟩ := hplen
 have hcp1 := hpt.cap
 have hcp2 := hph.cap
 have hcp3 := hpb.cap
 have hcp4 := hpl.cap
 have hxs := hX
 have hlt := hxs.lt
 refine Y.calls 20 Try.func32 rfl rfl ?_
 intro ac F0
 have F : Fr ac 20 [(0, .agg #[.slice ta p.nt tc, .slice ha p.nh hc, .slice ba p.nb bc, .slice la p.nl lc]), (1, .slice a xs.length c)] := F0.sub _
 clear F0
 refine Y.seq ?_
 refine Y.lit (by kernel_rfl) ?_
 have hgs3 : w.heap.size ≤ w.heap.size := G.size
 refine Y.pv F (X.box rfl (F.ev 0 (.agg #[.slice ta p.nt tc, .slice ha p.nh hc, .slice ba p.nb bc, .slice la p.nl lc])) X.bx) ?_;clear F ac;intro ac F
 have hgs5 : w.heap.size ≤ w.heap.size := G.size
 have g := Gr.alloc w (.cells #[.slice ta p.nt tc, .slice ha p.nh hc, .slice ba p.nb bc, .slice la p.nl lc] 27)
 have hb := heap_alloc_new w (.cells #[.slice ta p.nt tc, .slice ha p.nh hc, .slice ba p.nb bc, .slice la p.nl lc] 27)
 have hbl : w.heap.size < (w.alloc (.cells #[.slice ta p.nt tc, .slice ha p.nh hc, .slice ba p.nb bc, .slice la p.nl lc] 27)).heap.size := by simp
 have hC2 : RCells (w.alloc (.cells #[.slice ta p.nt tc, .slice ha p.nh hc, .slice ba p.nb bc, .slice la p.nl lc] 27)) [(Ad w.heap.size 0, .slice ta p.nt tc), (Ad w.heap.size 1, .slice ha p.nh hc), (Ad w.heap.size 2, .slice ba p.nb bc), (Ad w.heap.size 3, .slice la p.nl lc)] := (RCells.nil w).box (b := w.heap.size) #[.slice ta p.nt tc, .slice ha p.nh hc, .slice ba p.nb bc, .slice la p.nl lc] 27 rfl
 generalize w.alloc (.cells #[.slice ta p.nt tc, .slice ha p.nh hc, .slice ba p.nb bc, .slice la p.nl lc] 27) = w6 at *
 replace G := G.trans g
 have hC := hC2
 clear hC2
 replace hpt := hpt.gr g
 replace hph := hph.gr g
 replace hpb := hpb.gr g
 replace hpl := hpl.gr g
 replace hxs := hxs.gr g
 have hsz4 := hbl
 clear g hb hbl
 refine Y.pv F (X.assign rfl (X.kc (.bool false) rfl)) ?_;clear F ac;intro ac F
 refine Y.pv F (X.assign rfl (X.kc (Vi 0) rfl)) ?_;clear F ac;intro ac F
 refine Y.nil ?_
 replace F : Fr ac 20 [(1, .slice a xs.length c), (2, Vp w.heap.size)] := F.sub _
 refine X.thenN ?_
 refine Y.seq ?_
 refine Y.seq ?_
 refine Y.lit (by kernel_rfl) ?_
 refine Y.pv F (X.load rfl (F.ev 2 (Vp w.heap.size)) (X.ldN (Try.agg27 _) (Try.siz27 _) (Y.atz (⟨w.heap.size, 0, none⟩) (Y.AtFrom.cons (hC.at 0 rfl) (Y.AtFrom.cons (hC.at 1 rfl) (Y.AtFrom.cons (hC.at 2 rfl) (Y.AtFrom.cons (hC.at 3 rfl) (Y.AtFrom.nil _ _ _)))))))) ?_;clear F ac;intro ac F
 refine Y.pv F (X.move rfl (F.ev 1 (.slice a xs.length c))) ?_;clear F ac;intro ac F
 refine Y.pcall F (X.w0 rfl) rfl (X.enter (F := 71) rfl (X.kc (.func (.func 71) #[] #[]) rfl) (X.a3 (F.ev 7 (.agg #[.slice ta p.nt tc, .slice ha p.nh hc, .slice ba p.nb bc, .slice la p.nl lc])) (F.ev 8 (.slice a xs.length c)) (X.kc (.bool true) rfl)) (enters_of Try.func71 (by kernel_rfl) rfl _)) ((begun_any p ta ha ba la tc hc bc lc a c xs true w6 (hP.gr G) (hX.gr G))) ?_
 clear F ac
 rintro e w7 ⟨rfl, g⟩
 refine ⟨_, rfl, ?_⟩
 intro ac F
 replace G := G.trans g
 replace hC := hC.gr g
 replace hpt := hpt.gr g
 replace hph := hph.gr g
 replace hpb := hpb.gr g
 replace hpl := hpl.gr g
 replace hxs := hxs.gr g
 clear g
 refine Y.pv F (X.assign rfl (F.ev 9 (Vi (whoE p xs)))) ?_;clear F ac;intro ac F
 refine Y.nil ?_
 replace F : Fr ac 20 [(1, .slice a xs.length c), (2, Vp w.heap.size), (6, Vi (whoE p xs))] := F.sub _
 refine X.thenN ?_
 refine Y.seq ?_
 refine Y.lit (by kernel_rfl) ?_
 refine Y.pv F (X.move rfl (F.ev 6 (Vi (whoE p xs)))) ?_;clear F ac;intro ac F
 refine Y.pv F (X.binop rfl (F.ev 10 (Vi (whoE p xs))) (X.kc (Vi 0) rfl) (X.neqI Try.underlying31 rfl)) ?_;clear F ac;intro ac F
 refine Y.nil ?_
 replace F : Fr ac 20 [(1, .slice a xs.length c), (2, Vp w.heap.size), (6, Vi (whoE p xs)), (11, .bool ((whoE p xs : Int) != 0))] := F.sub _
 refine X.thenN ?_
 cases h8 : ((whoE p xs : Int) != 0) with
 | false =>
  try rw [h8] at F
  have h8p : (whoE p xs : Int) = 0 := by simpa using h8
  have hbg := (who_ok (p := p) (xs := xs) (by omega)).1
  obtain ⟨-, hp, hlen, hx⟩ := beg_ok hbg
  refine Y.condF (F.ev 11 (.bool false)) ?_
  refine Y.skip ?_
  refine X.thenN ?_
  refine Y.seq ?_
  refine Y.region F [some (.agg #[.slice ta p.nt tc, .slice ha p.nh hc, .slice ba p.nb bc, .slice la p.nl lc]), some (.slice a xs.length c), some (.agg #[.slice ta p.nt tc, .slice ha p.nh hc, .slice ba p.nb bc, .slice la p.nl lc]), some (.slice a xs.length c), some (.agg (ldA (ldV p xs xs.length)).toArray), some (.bool (hopeB p (tim p) xs)), some (.bool (!(hopeB p (tim p) xs))), some (.bool (!(hopeB p (tim p) xs))), some (Vi 0)] [] rfl ⟨by kernel_rfl, of_decide_eq_true (by kernel_rfl), by kernel_rfl, by kernel_rfl, by kernel_rfl⟩ ⟨?_, ?_, ?_, ?_, ?_, ?_, ?_, ?_, ?_, trivial⟩ ?_
  ·intro ac done u W Sx hR
   have g : Gr w7 W := hR.1
   exact X.vl (X.load rfl (Sx.ev 2 (Vp w.heap.size)) (X.ldN (Try.agg27 _) (Try.siz27 _) (Y.atz (⟨w.heap.size, 0, none⟩) (Y.AtFrom.cons ((hC.gr g).at 0 rfl) (Y.AtFrom.cons ((hC.gr g).at 1 rfl) (Y.AtFrom.cons ((hC.gr g).at 2 rfl) (Y.AtFrom.cons ((hC.gr g).at 3 rfl) (Y.AtFrom.nil _ _ _)))))))) hR.st0
  ·intro ac done u W Sx hR
   exact X.vl (X.move rfl (Sx.ev 1 (.slice a xs.length c))) hR.st0
  ·intro ac done u W Sx hR
   have g : Gr w7 W := hR.1
   exact X.vl (X.load rfl (Sx.ev 2 (Vp w.heap.size)) (X.ldN (Try.agg27 _) (Try.siz27 _) (Y.atz (⟨w.heap.size, 0, none⟩) (Y.AtFrom.cons ((hC.gr g).at 0 rfl) (Y.AtFrom.cons ((hC.gr g).at 1 rfl) (Y.AtFrom.cons ((hC.gr g).at 2 rfl) (Y.AtFrom.cons ((hC.gr g).at 3 rfl) (Y.AtFrom.nil _ _ _)))))))) hR.st0
  ·intro ac done u W Sx hR
   exact X.vl (X.move rfl (Sx.ev 1 (.slice a xs.length c))) hR.st0
  ·intro ac done u W Sx hR
   have g : Gr w7 W := hR.1
   refine X.call (X.w0 rfl) (X.enter (F := 73) rfl (X.kc (.func (.func 73) #[] #[]) rfl) (X.a2 (Sx.ev 15 (.agg #[.slice ta p.nt tc, .slice ha p.nh hc, .slice ba p.nb bc, .slice la p.nl lc])) (Sx.ev 16 (.slice a xs.length c))) (enters_of Try.func73 (by kernel_rfl) rfl _)) (loaded_any p ta ha ba la tc hc bc lc a xs.length c xs W (hP.gr (G.trans g)) (hX.gr (G.trans g)) hp hlen hx) ?_
   rintro e W2 ⟨rfl, g2⟩
   exact ⟨_, rfl, X.kn rfl, hR.step g2 rfl⟩
  ·intro ac done u W Sx hR
   have g : Gr w7 W := hR.1
   refine X.call (X.w0 rfl) (X.enter (F := 72) rfl (X.kc (.func (.func 72) #[] #[]) rfl) (X.a3 (Sx.ev 13 (.agg #[.slice ta p.nt tc, .slice ha p.nh hc, .slice ba p.nb bc, .slice la p.nl lc])) (Sx.ev 14 (.slice a xs.length c)) (Sx.ev 17 (.agg (ldA (ldV p xs xs.length)).toArray))) (enters_of Try.func72 (by kernel_rfl) rfl _)) (by have hq := hop_any p ta ha ba la tc hc bc lc a c xs (ldV p xs xs.length) W (hP.gr (G.trans g)) (hX.gr (G.trans g)) hp hx hlen; rw [hope_ld hx] at hq; exact hq) ?_
   rintro e W2 ⟨rfl, g2⟩
   exact ⟨_, rfl, X.kn rfl, hR.step g2 rfl⟩
  ·intro ac done u W Sx hR
   exact X.vl (X.notB rfl (Sx.ev 18 (.bool (hopeB p (tim p) xs))) rfl) hR.st0
  ·intro ac done u W Sx hR
   exact X.vl (X.assign rfl (Sx.ev 19 (.bool (!(hopeB p (tim p) xs))))) hR.st0
  ·intro ac done u W Sx hR
   exact X.vl (X.assign rfl (X.kc (Vi 0) rfl)) hR.st0
  intro ac u w9 hs hd hl ho hR
  have g : Gr w7 w9 := hR.1
  replace F : Fr ac 20 [(4, .bool (!(hopeB p (tim p) xs))), (5, Vi 0)] := X.fr hs hd hl _ (by kernel_rfl)
  clear hs hd hl ho hR
  replace G := G.trans g
  replace hC := hC.gr g
  replace hpt := hpt.gr g
  replace hph := hph.gr g
  replace hpb := hpb.gr g
  replace hpl := hpl.gr g
  replace hxs := hxs.gr g
  clear g
  refine X.thenN ?_
  refine Y.ret ?_
  exact Y.ret0 (v := .tuple #[.bool (!(hopeB p (tim p) xs)), Vi 0]) F (Y.rs2 F rfl (by kernel_rfl) (by kernel_rfl)) ⟨by rw [allow_1 (by omega), (show whoE p xs = 0 by omega)], G⟩
 | true =>
  try rw [h8] at F
  have h8p : ¬ (whoE p xs : Int) = 0 := by simpa using h8
  refine Y.condT (F.ev 11 (.bool true)) ?_
  refine Y.seq ?_
  refine Y.lit (by kernel_rfl) ?_
  refine Y.pv F (X.move rfl (F.ev 6 (Vi (whoE p xs)))) ?_;clear F ac;intro ac F
  refine Y.pv F (X.assign rfl (X.kc (.bool false) rfl)) ?_;clear F ac;intro ac F
  refine Y.pv F (X.assign rfl (F.ev 12 (Vi (whoE p xs)))) ?_;clear F ac;intro ac F
  refine Y.nil ?_
  replace F : Fr ac 20 [(4, .bool false), (5, Vi (whoE p xs))] := F.sub _
  refine X.thenN ?_
  refine Y.ret ?_
  refine X.thenR ?_
  exact Y.ret0 (v := .tuple #[.bool false, Vi (whoE p xs)]) F (Y.rs2 F rfl (by kernel_rfl) (by kernel_rfl)) ⟨by rw [allow_0 (by omega)], G⟩
set_option maxRecDepth 100000 in
set_option maxHeartbeats 1000000 in
theorem cost_any (p : Pb) (ta ha ba la : Option Addr) (tc hc bc lc : Nat) (a : Option Addr) (c : Nat) (xs : List Int) (w : World) (hP : PbAt w p ta ha ba la tc hc bc lc) (hX : Ints w a xs.length xs) :
  Calls Try.prog 35 #[.agg #[.slice ta p.nt tc, .slice ha p.nh hc, .slice ba p.nb bc, .slice la p.nl lc], .slice a xs.length c] w fun e w' => e = .returned (.tuple #[Vi (costV p xs), Vi (whoE p xs)]) ∧ Gr w w' := by
 have G := Gr.refl w
 have hpt := hP.t
 have hph := hP.h
 have hpb := hP.b
 have hpl := hP.l
 have hplen := hP.len
 obtain ⟨hn1, hn2, hn3, hn4⟩ := hplen
 have hcp1 := hpt.cap
 have hcp2 := hph.cap
 have hcp3 := hpb.cap
 have hcp4 := hpl.cap
 have hxs := hX
 have hlt := hxs.lt
 refine Y.calls 19 Try.func35 rfl rfl ?_
 intro ac F0
 have F : Fr ac 19 [(0, .agg #[.slice ta p.nt tc, .slice ha p.nh hc, .slice ba p.nb bc, .slice la p.nl lc]), (1, .slice a xs.length c)] := F0.sub _
 clear F0
 refine Y.seq ?_
 refine Y.lit (by kernel_rfl) ?_
 have hgs3 : w.heap.size ≤ w.heap.size := G.size
 refine Y.pv F (X.box rfl (F.ev 0 (.agg #[.slice ta p.nt tc, .slice ha p.nh hc, .slice ba p.nb bc, .slice la p.nl lc])) X.bx) ?_;clear F ac;intro ac F
 have hgs5 : w.heap.size ≤ w.heap.size := G.size
 have g := Gr.alloc w (.cells #[.slice ta p.nt tc, .slice ha p.nh hc, .slice ba p.nb bc, .slice la p.nl lc] 27)
 have hb := heap_alloc_new w (.cells #[.slice ta p.nt tc, .slice ha p.nh hc, .slice ba p.nb bc, .slice la p.nl lc] 27)
 have hbl : w.heap.size < (w.alloc (.cells #[.slice ta p.nt tc, .slice ha p.nh hc, .slice ba p.nb bc, .slice la p.nl lc] 27)).heap.size := by simp
 have hC2 : RCells (w.alloc (.cells #[.slice ta p.nt tc, .slice ha p.nh hc, .slice ba p.nb bc, .slice la p.nl lc] 27)) [(Ad w.heap.size 0, .slice ta p.nt tc), (Ad w.heap.size 1, .slice ha p.nh hc), (Ad w.heap.size 2, .slice ba p.nb bc), (Ad w.heap.size 3, .slice la p.nl lc)] := (RCells.nil w).box (b := w.heap.size) #[.slice ta p.nt tc, .slice ha p.nh hc, .slice ba p.nb bc, .slice la p.nl lc] 27 rfl
 generalize w.alloc (.cells #[.slice ta p.nt tc, .slice ha p.nh hc, .slice ba p.nb bc, .slice la p.nl lc] 27) = w6 at *
 replace G := G.trans g
 have hC := hC2
 clear hC2
 replace hpt := hpt.gr g
 replace hph := hph.gr g
 replace hpb := hpb.gr g
 replace hpl := hpl.gr g
 replace hxs := hxs.gr g
 have hsz4 := hbl
 clear g hb hbl
 refine Y.pv F (X.assign rfl (X.kc (Vi 0) rfl)) ?_;clear F ac;intro ac F
 refine Y.pv F (X.assign rfl (X.kc (Vi 0) rfl)) ?_;clear F ac;intro ac F
 refine Y.nil ?_
 replace F : Fr ac 19 [(1, .slice a xs.length c), (2, Vp w.heap.size)] := F.sub _
 refine X.thenN ?_
 refine Y.seq ?_
 refine Y.seq ?_
 refine Y.lit (by kernel_rfl) ?_
 refine Y.pv F (X.load rfl (F.ev 2 (Vp w.heap.size)) (X.ldN (Try.agg27 _) (Try.siz27 _) (Y.atz (⟨w.heap.size, 0, none⟩) (Y.AtFrom.cons (hC.at 0 rfl) (Y.AtFrom.cons (hC.at 1 rfl) (Y.AtFrom.cons (hC.at 2 rfl) (Y.AtFrom.cons (hC.at 3 rfl) (Y.AtFrom.nil _ _ _)))))))) ?_;clear F ac;intro ac F
 refine Y.pv F (X.move rfl (F.ev 1 (.slice a xs.length c))) ?_;clear F ac;intro ac F
 refine Y.pcall F (X.w0 rfl) rfl (X.enter (F := 71) rfl (X.kc (.func (.func 71) #[] #[]) rfl) (X.a3 (F.ev 7 (.agg #[.slice ta p.nt tc, .slice ha p.nh hc, .slice ba p.nb bc, .slice la p.nl lc])) (F.ev 8 (.slice a xs.length c)) (X.kc (.bool true) rfl)) (enters_of Try.func71 (by kernel_rfl) rfl _)) ((begun_any p ta ha ba la tc hc bc lc a c xs true w6 (hP.gr G) (hX.gr G))) ?_
 clear F ac
 rintro e w7 ⟨rfl, g⟩
 refine ⟨_, rfl, ?_⟩
 intro ac F
 replace G := G.trans g
 replace hC := hC.gr g
 replace hpt := hpt.gr g
 replace hph := hph.gr g
 replace hpb := hpb.gr g
 replace hpl := hpl.gr g
 replace hxs := hxs.gr g
 clear g
 refine Y.pv F (X.assign rfl (F.ev 9 (Vi (whoE p xs)))) ?_;clear F ac;intro ac F
 refine Y.nil ?_
 replace F : Fr ac 19 [(1, .slice a xs.length c), (2, Vp w.heap.size), (6, Vi (whoE p xs))] := F.sub _
 refine X.thenN ?_
 refine Y.seq ?_
 refine Y.lit (by kernel_rfl) ?_
 refine Y.pv F (X.move rfl (F.ev 6 (Vi (whoE p xs)))) ?_;clear F ac;intro ac F
 refine Y.pv F (X.binop rfl (F.ev 10 (Vi (whoE p xs))) (X.kc (Vi 0) rfl) (X.neqI Try.underlying31 rfl)) ?_;clear F ac;intro ac F
 refine Y.nil ?_
 replace F : Fr ac 19 [(1, .slice a xs.length c), (2, Vp w.heap.size), (6, Vi (whoE p xs)), (11, .bool ((whoE p xs : Int) != 0))] := F.sub _
 refine X.thenN ?_
 cases h8 : ((whoE p xs : Int) != 0) with
 | false =>
  try rw [h8] at F
  have h8p : (whoE p xs : Int) = 0 := by simpa using h8
  have hbg := (who_ok (p := p) (xs := xs) (by omega)).1
  obtain ⟨-, hp, hlen, hx⟩ := beg_ok hbg
  refine Y.condF (F.ev 11 (.bool false)) ?_
  refine Y.skip ?_
  refine X.thenN ?_
  refine Y.seq ?_
  refine Y.region F [some (.agg #[.slice ta p.nt tc, .slice ha p.nh hc, .slice ba p.nb bc, .slice la p.nl lc]), some (.slice a xs.length c), some (.agg #[.slice ta p.nt tc, .slice ha p.nh hc, .slice ba p.nb bc, .slice la p.nl lc]), some (.slice a xs.length c), some (.agg (ldA (ldV p xs xs.length)).toArray), some (Vi (bndV p xs)), some (Vi (bndV p xs)), some (Vi 0)] [] rfl ⟨by kernel_rfl, of_decide_eq_true (by kernel_rfl), by kernel_rfl, by kernel_rfl, by kernel_rfl⟩ ⟨?_, ?_, ?_, ?_, ?_, ?_, ?_, ?_, trivial⟩ ?_
  ·intro ac done u W Sx hR
   have g : Gr w7 W := hR.1
   exact X.vl (X.load rfl (Sx.ev 2 (Vp w.heap.size)) (X.ldN (Try.agg27 _) (Try.siz27 _) (Y.atz (⟨w.heap.size, 0, none⟩) (Y.AtFrom.cons ((hC.gr g).at 0 rfl) (Y.AtFrom.cons ((hC.gr g).at 1 rfl) (Y.AtFrom.cons ((hC.gr g).at 2 rfl) (Y.AtFrom.cons ((hC.gr g).at 3 rfl) (Y.AtFrom.nil _ _ _)))))))) hR.st0
  ·intro ac done u W Sx hR
   exact X.vl (X.move rfl (Sx.ev 1 (.slice a xs.length c))) hR.st0
  ·intro ac done u W Sx hR
   have g : Gr w7 W := hR.1
   exact X.vl (X.load rfl (Sx.ev 2 (Vp w.heap.size)) (X.ldN (Try.agg27 _) (Try.siz27 _) (Y.atz (⟨w.heap.size, 0, none⟩) (Y.AtFrom.cons ((hC.gr g).at 0 rfl) (Y.AtFrom.cons ((hC.gr g).at 1 rfl) (Y.AtFrom.cons ((hC.gr g).at 2 rfl) (Y.AtFrom.cons ((hC.gr g).at 3 rfl) (Y.AtFrom.nil _ _ _)))))))) hR.st0
  ·intro ac done u W Sx hR
   exact X.vl (X.move rfl (Sx.ev 1 (.slice a xs.length c))) hR.st0
  ·intro ac done u W Sx hR
   have g : Gr w7 W := hR.1
   refine X.call (X.w0 rfl) (X.enter (F := 73) rfl (X.kc (.func (.func 73) #[] #[]) rfl) (X.a2 (Sx.ev 15 (.agg #[.slice ta p.nt tc, .slice ha p.nh hc, .slice ba p.nb bc, .slice la p.nl lc])) (Sx.ev 16 (.slice a xs.length c))) (enters_of Try.func73 (by kernel_rfl) rfl _)) (loaded_any p ta ha ba la tc hc bc lc a xs.length c xs W (hP.gr (G.trans g)) (hX.gr (G.trans g)) hp hlen hx) ?_
   rintro e W2 ⟨rfl, g2⟩
   exact ⟨_, rfl, X.kn rfl, hR.step g2 rfl⟩
  ·intro ac done u W Sx hR
   have g : Gr w7 W := hR.1
   refine X.call (X.w0 rfl) (X.enter (F := 76) rfl (X.kc (.func (.func 76) #[] #[]) rfl) (X.a3 (Sx.ev 13 (.agg #[.slice ta p.nt tc, .slice ha p.nh hc, .slice ba p.nb bc, .slice la p.nl lc])) (Sx.ev 14 (.slice a xs.length c)) (Sx.ev 17 (.agg (ldA (ldV p xs xs.length)).toArray))) (enters_of Try.func76 (by kernel_rfl) rfl _)) (by have hq := bnd_any p ta ha ba la tc hc bc lc a c xs (ldV p xs xs.length) W (hP.gr (G.trans g)) (hX.gr (G.trans g)) hp hx hlen; rw [bnd_ld hx] at hq; exact hq) ?_
   rintro e W2 ⟨rfl, g2⟩
   exact ⟨_, rfl, X.kn rfl, hR.step g2 rfl⟩
  ·intro ac done u W Sx hR
   exact X.vl (X.assign rfl (Sx.ev 18 (Vi (bndV p xs)))) hR.st0
  ·intro ac done u W Sx hR
   exact X.vl (X.assign rfl (X.kc (Vi 0) rfl)) hR.st0
  intro ac u w9 hs hd hl ho hR
  have g : Gr w7 w9 := hR.1
  replace F : Fr ac 19 [(4, Vi (bndV p xs)), (5, Vi 0)] := X.fr hs hd hl _ (by kernel_rfl)
  clear hs hd hl ho hR
  replace G := G.trans g
  replace hC := hC.gr g
  replace hpt := hpt.gr g
  replace hph := hph.gr g
  replace hpb := hpb.gr g
  replace hpl := hpl.gr g
  replace hxs := hxs.gr g
  clear g
  refine X.thenN ?_
  refine Y.ret ?_
  exact Y.ret0 (v := .tuple #[Vi (bndV p xs), Vi 0]) F (Y.rs2 F rfl (by kernel_rfl) (by kernel_rfl)) ⟨by rw [cost_1 (by omega), (show whoE p xs = 0 by omega)], G⟩
 | true =>
  try rw [h8] at F
  have h8p : ¬ (whoE p xs : Int) = 0 := by simpa using h8
  refine Y.condT (F.ev 11 (.bool true)) ?_
  refine Y.seq ?_
  refine Y.lit (by kernel_rfl) ?_
  refine Y.pv F (X.move rfl (F.ev 6 (Vi (whoE p xs)))) ?_;clear F ac;intro ac F
  refine Y.pv F (X.assign rfl (X.kc (Vi 0) rfl)) ?_;clear F ac;intro ac F
  refine Y.pv F (X.assign rfl (F.ev 12 (Vi (whoE p xs)))) ?_;clear F ac;intro ac F
  refine Y.nil ?_
  replace F : Fr ac 19 [(4, Vi 0), (5, Vi (whoE p xs))] := F.sub _
  refine X.thenN ?_
  refine Y.ret ?_
  refine X.thenR ?_
  exact Y.ret0 (v := .tuple #[Vi 0, Vi (whoE p xs)]) F (Y.rs2 F rfl (by kernel_rfl) (by kernel_rfl)) ⟨by rw [cost_0 (by omega)], G⟩
end
section
open Go.RowKit

set_option maxRecDepth 100000 in
set_option maxHeartbeats 1000000 in
theorem begin_any (p : Pb) (ta ha ba la : Option Addr) (tc hc bc lc : Nat) (a : Option Addr) (c : Nat) (xs : List Int) (w : World) (hP : PbAt w p ta ha ba la tc hc bc lc) (hX : Ints w a xs.length xs) :
  Calls Try.prog 78 #[.agg #[.slice ta p.nt tc, .slice ha p.nh hc, .slice ba p.nb bc, .slice la p.nl lc], .slice a xs.length c] w fun e w' => e = .returned (Vi (begE p xs)) ∧ Gr w w' := by
 have G := Gr.refl w
 have hpt := hP.t
 have hph := hP.h
 have hpb := hP.b
 have hpl := hP.l
 have hplen := hP.len
 obtain ⟨hn1, hn2, hn3, hn4⟩ := hplen
 have hcp1 := hpt.cap
 have hcp2 := hph.cap
 have hcp3 := hpb.cap
 have hcp4 := hpl.cap
 have hxs := hX
 have hlt := hxs.lt
 refine Y.calls 31 Try.func78 rfl rfl ?_
 intro ac F0
 have F : Fr ac 31 [(0, .agg #[.slice ta p.nt tc, .slice ha p.nh hc, .slice ba p.nb bc, .slice la p.nl lc]), (1, .slice a xs.length c)] := F0.sub _
 clear F0
 refine Y.seq ?_
 refine Y.lit (by kernel_rfl) ?_
 have hgs3 : w.heap.size ≤ w.heap.size := G.size
 refine Y.pv F (X.box rfl (F.ev 0 (.agg #[.slice ta p.nt tc, .slice ha p.nh hc, .slice ba p.nb bc, .slice la p.nl lc])) X.bx) ?_;clear F ac;intro ac F
 have hgs5 : w.heap.size ≤ w.heap.size := G.size
 have g := Gr.alloc w (.cells #[.slice ta p.nt tc, .slice ha p.nh hc, .slice ba p.nb bc, .slice la p.nl lc] 27)
 have hb := heap_alloc_new w (.cells #[.slice ta p.nt tc, .slice ha p.nh hc, .slice ba p.nb bc, .slice la p.nl lc] 27)
 have hbl : w.heap.size < (w.alloc (.cells #[.slice ta p.nt tc, .slice ha p.nh hc, .slice ba p.nb bc, .slice la p.nl lc] 27)).heap.size := by simp
 have hC2 : RCells (w.alloc (.cells #[.slice ta p.nt tc, .slice ha p.nh hc, .slice ba p.nb bc, .slice la p.nl lc] 27)) [(Ad w.heap.size 0, .slice ta p.nt tc), (Ad w.heap.size 1, .slice ha p.nh hc), (Ad w.heap.size 2, .slice ba p.nb bc), (Ad w.heap.size 3, .slice la p.nl lc)] := (RCells.nil w).box (b := w.heap.size) #[.slice ta p.nt tc, .slice ha p.nh hc, .slice ba p.nb bc, .slice la p.nl lc] 27 rfl
 generalize w.alloc (.cells #[.slice ta p.nt tc, .slice ha p.nh hc, .slice ba p.nb bc, .slice la p.nl lc] 27) = w6 at *
 replace G := G.trans g
 have hC := hC2
 clear hC2
 replace hpt := hpt.gr g
 replace hph := hph.gr g
 replace hpb := hpb.gr g
 replace hpl := hpl.gr g
 replace hxs := hxs.gr g
 have hsz4 := hbl
 clear g hb hbl
 refine Y.pv F (X.assign rfl (X.kc (Vi 0) rfl)) ?_;clear F ac;intro ac F
 refine Y.nil ?_
 replace F : Fr ac 31 [(1, .slice a xs.length c), (2, Vp w.heap.size)] := F.sub _
 refine X.thenN ?_
 refine Y.seq ?_
 refine Y.lit (by kernel_rfl) ?_
 refine Y.pv F (X.load rfl (F.ev 2 (Vp w.heap.size)) (X.ldN (Try.agg27 _) (Try.siz27 _) (Y.atz (⟨w.heap.size, 0, none⟩) (Y.AtFrom.cons (hC.at 0 rfl) (Y.AtFrom.cons (hC.at 1 rfl) (Y.AtFrom.cons (hC.at 2 rfl) (Y.AtFrom.cons (hC.at 3 rfl) (Y.AtFrom.nil _ _ _)))))))) ?_;clear F ac;intro ac F
 refine Y.pcall F (X.w0 rfl) rfl (X.enter (F := 19) rfl (X.kc (.func (.func 19) #[] #[]) rfl) (X.a1 (F.ev 7 (.agg #[.slice ta p.nt tc, .slice ha p.nh hc, .slice ba p.nb bc, .slice la p.nl lc]))) (enters_of Try.func19 (by kernel_rfl) rfl _)) (check2_any p ta ha ba la tc hc bc lc w6 (hP.gr G)) ?_
 clear F ac
 rintro e w7 ⟨rfl, g⟩
 refine ⟨_, rfl, ?_⟩
 intro ac F
 replace G := G.trans g
 replace hC := hC.gr g
 replace hpt := hpt.gr g
 replace hph := hph.gr g
 replace hpb := hpb.gr g
 replace hpl := hpl.gr g
 replace hxs := hxs.gr g
 clear g
 refine Y.pv F (X.assign rfl (F.ev 8 (Vi (chkE p)))) ?_;clear F ac;intro ac F
 refine Y.nil ?_
 replace F : Fr ac 31 [(1, .slice a xs.length c), (2, Vp w.heap.size), (5, Vi (chkE p))] := F.sub _
 refine X.thenN ?_
 refine Y.seq ?_
 refine Y.seq ?_
 refine Y.lit (by kernel_rfl) ?_
 refine Y.pv F (X.move rfl (F.ev 5 (Vi (chkE p)))) ?_;clear F ac;intro ac F
 refine Y.pv F (X.binop rfl (F.ev 9 (Vi (chkE p))) (X.kc (Vi 0) rfl) (X.neqI Try.underlying31 rfl)) ?_;clear F ac;intro ac F
 refine Y.nil ?_
 replace F : Fr ac 31 [(1, .slice a xs.length c), (2, Vp w.heap.size), (5, Vi (chkE p)), (10, .bool ((chkE p : Int) != 0))] := F.sub _
 refine X.thenN ?_
 cases h8 : ((chkE p : Int) != 0) with
 | false =>
  try rw [h8] at F
  have h8p : (chkE p : Int) = 0 := by simpa using h8
  refine Y.condF (F.ev 10 (.bool false)) ?_
  refine Y.skip ?_
  refine X.thenN ?_
  refine Y.seq ?_
  refine Y.seq ?_
  refine Y.lit (by kernel_rfl) ?_
  refine Y.pv F (X.move rfl (F.ev 1 (.slice a xs.length c))) ?_;clear F ac;intro ac F
  refine Y.pv F (X.len1 Try.underlying34 rfl (F.ev 12 (.slice a xs.length c))) ?_;clear F ac;intro ac F
  refine Y.pv F (X.field rfl (F.ev 2 (Vp w.heap.size)) (X.fld Try.underlying27 rfl (Try.siz22 _) rfl rfl)) ?_;clear F ac;intro ac F
  refine Y.pv F (X.load rfl (F.ev 14 (Vp w.heap.size)) (X.ld1 (Try.agg22 _) (hC.at 0 rfl))) ?_;clear F ac;intro ac F
  refine Y.pv F (X.len1 Try.underlying22 rfl (F.ev 15 (.slice ta p.nt tc))) ?_;clear F ac;intro ac F
  refine Y.pv F (X.binop rfl (F.ev 13 (Vi xs.length)) (F.ev 16 (Vi p.nt)) (X.gtrI Try.underlying3 rfl)) ?_;clear F ac;intro ac F
  refine Y.nil ?_
  replace F : Fr ac 31 [(1, .slice a xs.length c), (2, Vp w.heap.size), (17, .bool (decide ((p.nt : Int) < xs.length)))] := F.sub _
  refine X.thenN ?_
  cases h9 : decide ((p.nt : Int) < xs.length) with
  | false =>
   try rw [h9] at F
   have h9p : ¬ ((p.nt : Int) < xs.length) := of_decide_eq_false h9
   refine Y.condF (F.ev 17 (.bool false)) ?_
   refine Y.skip ?_
   refine X.thenN ?_
   refine Y.seq ?_
   refine Y.seq ?_
   refine Y.lit (by kernel_rfl) ?_
   refine Y.pv F (X.assign rfl (X.kc (Vi 0) rfl)) ?_;clear F ac;intro ac F
   refine Y.nil ?_
   replace F : Fr ac 31 [(1, .slice a xs.length c), (2, Vp w.heap.size), (6, Vi 0)] := F.sub _
   refine X.thenN ?_
   refine Y.block ?_
   refine Y.loop (fun me_ ac wr => ∃ (i : Nat), me_ = xs.length - i ∧ Only (fun b => False) w7 wr ∧ i ≤ xs.length ∧ allN (fun i => isH p (xg xs i)) i = true ∧ Fr ac 31 [(1, .slice a xs.length c), (2, Vp w.heap.size), (6, Vi i)]) _ ⟨0, rfl, Only.refl _ _, Nat.zero_le _, rfl, F.sub _⟩ ?_
   have hptB1 := hpt
   have hphB1 := hph
   have hpbB1 := hpb
   have hplB1 := hpl
   have hxsB1 := hxs
   have GB1 := G
   have hCB1 := hC
   clear F ac
   intro me_ ac w10 hI
   obtain ⟨i, rfl, hO1, hi0, hok, F⟩ := hI
   replace G := GB1.trans (hO1.gr (fun _ _ h => h))
   replace hpt := (hP.t).gr G
   replace hph := (hP.h).gr G
   replace hpb := (hP.b).gr G
   replace hpl := (hP.l).gr G
   replace hxs := (hX).gr G
   replace hC := (RCells.cons (hO1.cell (hCB1.at 0 rfl) (fun h => h)) (RCells.cons (hO1.cell (hCB1.at 1 rfl) (fun h => h)) (RCells.cons (hO1.cell (hCB1.at 2 rfl) (fun h => h)) (RCells.cons (hO1.cell (hCB1.at 3 rfl) (fun h => h)) (RCells.nil _)))))
   refine Y.seq ?_
   refine Y.seq ?_
   refine Y.lit (by kernel_rfl) ?_
   refine Y.pv F (X.move rfl (F.ev 6 (Vi i))) ?_;clear F ac;intro ac F
   refine Y.pv F (X.move rfl (F.ev 1 (.slice a xs.length c))) ?_;clear F ac;intro ac F
   refine Y.pv F (X.len1 Try.underlying34 rfl (F.ev 19 (.slice a xs.length c))) ?_;clear F ac;intro ac F
   refine Y.pv F (X.binop rfl (F.ev 18 (Vi i)) (F.ev 20 (Vi xs.length)) (X.lssI Try.underlying3 rfl)) ?_;clear F ac;intro ac F
   refine Y.nil ?_
   replace F : Fr ac 31 [(1, .slice a xs.length c), (2, Vp w.heap.size), (6, Vi i), (21, .bool (decide ((i : Int) < xs.length)))] := F.sub _
   refine X.thenN ?_
   cases h11 : decide ((i : Int) < xs.length) with
   | false =>
    try rw [h11] at F
    have h11p : ¬ ((i : Int) < xs.length) := of_decide_eq_false h11
    obtain rfl : i = xs.length := by omega
    refine Y.condF (F.ev 21 (.bool false)) ?_
    refine Y.exit ?_
    refine X.thenX ?_
    refine X.thenX ?_
    refine X.blockX ?_
    refine X.thenN ?_
    refine Y.seq ?_
    refine Y.lit (by kernel_rfl) ?_
    refine Y.pv F (X.assign rfl (X.kc (Vi 0) rfl)) ?_;clear F ac;intro ac F
    refine Y.nil ?_
    replace F : Fr ac 31 [(4, Vi 0)] := F.sub _
    refine X.thenN ?_
    refine Y.ret ?_
    exact Y.ret0 (v := Vi 0) F (Y.rs1 F rfl (by kernel_rfl)) ⟨by rw [beg_3 (by omega) (by omega) hok], G⟩
   | true =>
    try rw [h11] at F
    have h11p : ((i : Int) < xs.length) := of_decide_eq_true h11
    have hi : i < xs.length := by omega
    refine Y.condT (F.ev 21 (.bool true)) ?_
    refine Y.skip ?_
    refine X.thenN ?_
    refine Y.seq ?_
    refine Y.block ?_
    refine Y.seq ?_
    obtain ⟨pd12, pe12, -, pc12⟩ := hxs.at (j := i) (by omega)
    subst pe12
    replace hC : RCells w10 [(Ad w.heap.size 0, .slice ta p.nt tc), (Ad w.heap.size 1, .slice ha p.nh hc), (Ad w.heap.size 2, .slice ba p.nb bc), (Ad w.heap.size 3, .slice la p.nl lc), (pd12.add i, Vi (xs[i]?.getD 0))] := hC.append ((RCells.cons pc12 (RCells.nil _)))
    clear pc12
    refine Y.region F [some (.agg #[.slice ta p.nt tc, .slice ha p.nh hc, .slice ba p.nb bc, .slice la p.nl lc]), some (.slice (some pd12) xs.length c), some (Vi i), some (.pointer (some (pd12.add i))), some (Vi (xs[i]?.getD 0)), some (.bool (isH p (xs[i]?.getD 0))), some (.bool (!(isH p (xs[i]?.getD 0))))] [] rfl ⟨by kernel_rfl, of_decide_eq_true (by kernel_rfl), by kernel_rfl, by kernel_rfl, by kernel_rfl⟩ ⟨?_, ?_, ?_, ?_, ?_, ?_, ?_, trivial⟩ ?_
    ·intro ac done u W Sx hR
     have g : Gr w10 W := hR.1
     exact X.vl (X.load rfl (Sx.ev 2 (Vp w.heap.size)) (X.ldN (Try.agg27 _) (Try.siz27 _) (Y.atz (⟨w.heap.size, 0, none⟩) (Y.AtFrom.cons ((hC.gr g).at 0 rfl) (Y.AtFrom.cons ((hC.gr g).at 1 rfl) (Y.AtFrom.cons ((hC.gr g).at 2 rfl) (Y.AtFrom.cons ((hC.gr g).at 3 rfl) (Y.AtFrom.nil _ _ _)))))))) hR.st0
    ·intro ac done u W Sx hR
     exact X.vl (X.move rfl (Sx.ev 1 (.slice (some pd12) xs.length c))) hR.st0
    ·intro ac done u W Sx hR
     exact X.vl (X.move rfl (Sx.ev 6 (Vi i))) hR.st0
    ·intro ac done u W Sx hR
     exact X.val (X.w0 rfl) rfl (X.index rfl (Sx.ev 25 (.slice (some pd12) xs.length c)) (Sx.ev 26 (Vi i)) (X.idx (k := i) Try.underlying34 (Try.siz3 _) (by omega) (by omega) (by rw [Nat.mul_one]))) hR.st0
    ·intro ac done u W Sx hR
     have g : Gr w10 W := hR.1
     exact X.vl (X.load rfl (Sx.ev 27 (.pointer (some (pd12.add i)))) (X.ld1 (Try.agg3 _) ((hC.gr g).at 4 rfl))) hR.st0
    ·intro ac done u W Sx hR
     refine X.call (X.w0 rfl) (X.enter (F := 62) rfl (X.kc (.func (.func 62) #[] #[]) rfl) (X.a2 (Sx.ev 24 (.agg #[.slice ta p.nt tc, .slice ha p.nh hc, .slice ba p.nb bc, .slice la p.nl lc])) (Sx.ev 28 (Vi (xs[i]?.getD 0)))) (enters_of Try.func62 (by kernel_rfl) rfl _)) (isHost_any p ta ha ba la tc hc bc lc (xs[i]?.getD 0) W) ?_
     rintro e W2 ⟨rfl, g2⟩
     exact ⟨_, rfl, X.kn rfl, hR.step g2 rfl⟩
    ·intro ac done u W Sx hR
     exact X.vl (X.notB rfl (Sx.ev 29 (.bool (isH p (xs[i]?.getD 0)))) rfl) hR.st0
    intro ac u w13 hs hd hl ho hR
    have g : Gr w10 w13 := hR.1
    replace F : Fr ac 31 [(1, .slice (some pd12) xs.length c), (2, Vp w.heap.size), (6, Vi i), (30, .bool (!(isH p (xs[i]?.getD 0))))] := X.fr hs hd hl _ (by kernel_rfl)
    clear hs hd hl ho hR
    replace G := G.trans g
    replace hC := hC.gr g
    replace hO1 := hO1.thenGr g
    replace hpt := hpt.gr g
    replace hph := hph.gr g
    replace hpb := hpb.gr g
    replace hpl := hpl.gr g
    replace hxs := hxs.gr g
    clear g
    refine X.thenN ?_
    cases h14 : isH p (xs[i]?.getD 0) with
    | false =>
     try rw [h14] at F
     refine Y.condT (F.ev 30 (.bool true)) ?_
     refine Y.seq ?_
     refine Y.lit (by kernel_rfl) ?_
     refine Y.pv F (X.assign rfl (X.kc (Vi 33) rfl)) ?_;clear F ac;intro ac F
     refine Y.nil ?_
     replace F : Fr ac 31 [(4, Vi 33)] := F.sub _
     refine X.thenN ?_
     refine Y.ret ?_
     refine X.blockR ?_
     refine X.thenR ?_
     refine X.thenR ?_
     refine X.blockR ?_
     refine X.thenR ?_
     exact Y.ret0 (v := Vi 33) F (Y.rs1 F rfl (by kernel_rfl)) ⟨by rw [beg_2 (by omega) (.inr (allN_false hi h14))], G⟩
    | true =>
     try rw [h14] at F
     refine Y.condF (F.ev 30 (.bool false)) ?_
     refine Y.skip ?_
     refine X.blockN ?_
     refine X.thenN ?_
     refine Y.lit (by kernel_rfl) ?_
     refine Y.pv F (X.move rfl (F.ev 6 (Vi i))) ?_;clear F ac;intro ac F
     refine Y.pv F (X.binop rfl (F.ev 22 (Vi i)) (X.kc (Vi 1) rfl) (X.addI Try.underlying3 rfl (by omega) (by omega))) ?_;clear F ac;intro ac F
     refine Y.pv F (X.assign rfl (F.ev 23 (Vi ((i : Int) + 1)))) ?_;clear F ac;intro ac F
     refine Y.nil ?_
     replace F : Fr ac 31 [(1, .slice (some pd12) xs.length c), (2, Vp w.heap.size), (6, Vi ((i : Int) + 1))] := F.sub _
     refine X.thenN ?_
     refine ⟨_, ?_, i + 1, rfl, hO1, by omega, allN_succ hok h14, F.sub _⟩
     omega
  | true =>
   try rw [h9] at F
   have h9p : ((p.nt : Int) < xs.length) := of_decide_eq_true h9
   refine Y.condT (F.ev 17 (.bool true)) ?_
   refine Y.seq ?_
   refine Y.lit (by kernel_rfl) ?_
   refine Y.pv F (X.assign rfl (X.kc (Vi 33) rfl)) ?_;clear F ac;intro ac F
   refine Y.nil ?_
   replace F : Fr ac 31 [(4, Vi 33)] := F.sub _
   refine X.thenN ?_
   refine Y.ret ?_
   refine X.thenR ?_
   exact Y.ret0 (v := Vi 33) F (Y.rs1 F rfl (by kernel_rfl)) ⟨by rw [beg_2 (by omega) (.inl (by omega))], G⟩
 | true =>
  try rw [h8] at F
  have h8p : ¬ (chkE p : Int) = 0 := by simpa using h8
  refine Y.condT (F.ev 10 (.bool true)) ?_
  refine Y.seq ?_
  refine Y.lit (by kernel_rfl) ?_
  refine Y.pv F (X.move rfl (F.ev 5 (Vi (chkE p)))) ?_;clear F ac;intro ac F
  refine Y.pv F (X.assign rfl (F.ev 11 (Vi (chkE p)))) ?_;clear F ac;intro ac F
  refine Y.nil ?_
  replace F : Fr ac 31 [(4, Vi (chkE p))] := F.sub _
  refine X.thenN ?_
  refine Y.ret ?_
  refine X.thenR ?_
  exact Y.ret0 (v := Vi (chkE p)) F (Y.rs1 F rfl (by kernel_rfl)) ⟨by rw [show begE p xs = chkE p from if_pos (by omega)], G⟩
set_option maxRecDepth 100000 in
set_option maxHeartbeats 1000000 in
theorem whole_any (p : Pb) (ta ha ba la : Option Addr) (tc hc bc lc : Nat) (a : Option Addr) (c : Nat) (xs : List Int) (w : World) (hP : PbAt w p ta ha ba la tc hc bc lc) (hX : Ints w a xs.length xs) :
  Calls Try.prog 74 #[.agg #[.slice ta p.nt tc, .slice ha p.nh hc, .slice ba p.nb bc, .slice la p.nl lc], .slice a xs.length c] w fun e w' => e = .returned (Vi (whoE p xs)) ∧ Gr w w' := by
 have G := Gr.refl w
 have hpt := hP.t
 have hph := hP.h
 have hpb := hP.b
 have hpl := hP.l
 have hplen := hP.len
 obtain ⟨hn1, hn2, hn3, hn4⟩ := hplen
 have hcp1 := hpt.cap
 have hcp2 := hph.cap
 have hcp3 := hpb.cap
 have hcp4 := hpl.cap
 have hxs := hX
 have hlt := hxs.lt
 refine Y.calls 18 Try.func74 rfl rfl ?_
 intro ac F0
 have F : Fr ac 18 [(0, .agg #[.slice ta p.nt tc, .slice ha p.nh hc, .slice ba p.nb bc, .slice la p.nl lc]), (1, .slice a xs.length c)] := F0.sub _
 clear F0
 refine Y.seq ?_
 refine Y.lit (by kernel_rfl) ?_
 have hgs3 : w.heap.size ≤ w.heap.size := G.size
 refine Y.pv F (X.box rfl (F.ev 0 (.agg #[.slice ta p.nt tc, .slice ha p.nh hc, .slice ba p.nb bc, .slice la p.nl lc])) X.bx) ?_;clear F ac;intro ac F
 have hgs5 : w.heap.size ≤ w.heap.size := G.size
 have g := Gr.alloc w (.cells #[.slice ta p.nt tc, .slice ha p.nh hc, .slice ba p.nb bc, .slice la p.nl lc] 27)
 have hb := heap_alloc_new w (.cells #[.slice ta p.nt tc, .slice ha p.nh hc, .slice ba p.nb bc, .slice la p.nl lc] 27)
 have hbl : w.heap.size < (w.alloc (.cells #[.slice ta p.nt tc, .slice ha p.nh hc, .slice ba p.nb bc, .slice la p.nl lc] 27)).heap.size := by simp
 have hC2 : RCells (w.alloc (.cells #[.slice ta p.nt tc, .slice ha p.nh hc, .slice ba p.nb bc, .slice la p.nl lc] 27)) [(Ad w.heap.size 0, .slice ta p.nt tc), (Ad w.heap.size 1, .slice ha p.nh hc), (Ad w.heap.size 2, .slice ba p.nb bc), (Ad w.heap.size 3, .slice la p.nl lc)] := (RCells.nil w).box (b := w.heap.size) #[.slice ta p.nt tc, .slice ha p.nh hc, .slice ba p.nb bc, .slice la p.nl lc] 27 rfl
 generalize w.alloc (.cells #[.slice ta p.nt tc, .slice ha p.nh hc, .slice ba p.nb bc, .slice la p.nl lc] 27) = w6 at *
 replace G := G.trans g
 have hC := hC2
 clear hC2
 replace hpt := hpt.gr g
 replace hph := hph.gr g
 replace hpb := hpb.gr g
 replace hpl := hpl.gr g
 replace hxs := hxs.gr g
 have hsz4 := hbl
 clear g hb hbl
 refine Y.pv F (X.assign rfl (X.kc (Vi 0) rfl)) ?_;clear F ac;intro ac F
 refine Y.nil ?_
 replace F : Fr ac 18 [(1, .slice a xs.length c), (2, Vp w.heap.size)] := F.sub _
 refine X.thenN ?_
 refine Y.seq ?_
 refine Y.lit (by kernel_rfl) ?_
 refine Y.pv F (X.load rfl (F.ev 2 (Vp w.heap.size)) (X.ldN (Try.agg27 _) (Try.siz27 _) (Y.atz (⟨w.heap.size, 0, none⟩) (Y.AtFrom.cons (hC.at 0 rfl) (Y.AtFrom.cons (hC.at 1 rfl) (Y.AtFrom.cons (hC.at 2 rfl) (Y.AtFrom.cons (hC.at 3 rfl) (Y.AtFrom.nil _ _ _)))))))) ?_;clear F ac;intro ac F
 refine Y.pv F (X.move rfl (F.ev 1 (.slice a xs.length c))) ?_;clear F ac;intro ac F
 refine Y.pcall F (X.w0 rfl) rfl (X.enter (F := 78) rfl (X.kc (.func (.func 78) #[] #[]) rfl) (X.a2 (F.ev 6 (.agg #[.slice ta p.nt tc, .slice ha p.nh hc, .slice ba p.nb bc, .slice la p.nl lc])) (F.ev 7 (.slice a xs.length c))) (enters_of Try.func78 (by kernel_rfl) rfl _)) (begin_any p ta ha ba la tc hc bc lc a c xs w6 (hP.gr G) (hX.gr G)) ?_
 clear F ac
 rintro e w7 ⟨rfl, g⟩
 refine ⟨_, rfl, ?_⟩
 intro ac F
 replace G := G.trans g
 replace hC := hC.gr g
 replace hpt := hpt.gr g
 replace hph := hph.gr g
 replace hpb := hpb.gr g
 replace hpl := hpl.gr g
 replace hxs := hxs.gr g
 clear g
 refine Y.pv F (X.assign rfl (F.ev 8 (Vi (begE p xs)))) ?_;clear F ac;intro ac F
 refine Y.nil ?_
 replace F : Fr ac 18 [(1, .slice a xs.length c), (2, Vp w.heap.size), (5, Vi (begE p xs))] := F.sub _
 refine X.thenN ?_
 refine Y.seq ?_
 refine Y.seq ?_
 refine Y.lit (by kernel_rfl) ?_
 refine Y.pv F (X.move rfl (F.ev 5 (Vi (begE p xs)))) ?_;clear F ac;intro ac F
 refine Y.pv F (X.binop rfl (F.ev 9 (Vi (begE p xs))) (X.kc (Vi 0) rfl) (X.neqI Try.underlying31 rfl)) ?_;clear F ac;intro ac F
 refine Y.nil ?_
 replace F : Fr ac 18 [(1, .slice a xs.length c), (2, Vp w.heap.size), (5, Vi (begE p xs)), (10, .bool ((begE p xs : Int) != 0))] := F.sub _
 refine X.thenN ?_
 cases h8 : ((begE p xs : Int) != 0) with
 | false =>
  try rw [h8] at F
  have h8p : (begE p xs : Int) = 0 := by simpa using h8
  refine Y.condF (F.ev 10 (.bool false)) ?_
  refine Y.skip ?_
  refine X.thenN ?_
  refine Y.seq ?_
  refine Y.seq ?_
  refine Y.lit (by kernel_rfl) ?_
  refine Y.pv F (X.move rfl (F.ev 1 (.slice a xs.length c))) ?_;clear F ac;intro ac F
  refine Y.pv F (X.len1 Try.underlying34 rfl (F.ev 12 (.slice a xs.length c))) ?_;clear F ac;intro ac F
  refine Y.pv F (X.field rfl (F.ev 2 (Vp w.heap.size)) (X.fld Try.underlying27 rfl (Try.siz22 _) rfl rfl)) ?_;clear F ac;intro ac F
  refine Y.pv F (X.load rfl (F.ev 14 (Vp w.heap.size)) (X.ld1 (Try.agg22 _) (hC.at 0 rfl))) ?_;clear F ac;intro ac F
  refine Y.pv F (X.len1 Try.underlying22 rfl (F.ev 15 (.slice ta p.nt tc))) ?_;clear F ac;intro ac F
  refine Y.pv F (X.binop rfl (F.ev 13 (Vi xs.length)) (F.ev 16 (Vi p.nt)) (X.lssI Try.underlying3 rfl)) ?_;clear F ac;intro ac F
  refine Y.nil ?_
  replace F : Fr ac 18 [(17, .bool (decide ((xs.length : Int) < p.nt)))] := F.sub _
  refine X.thenN ?_
  cases h9 : decide ((xs.length : Int) < p.nt) with
  | false =>
   try rw [h9] at F
   have h9p : ¬ ((xs.length : Int) < p.nt) := of_decide_eq_false h9
   refine Y.condF (F.ev 17 (.bool false)) ?_
   refine Y.skip ?_
   refine X.thenN ?_
   refine Y.seq ?_
   refine Y.lit (by kernel_rfl) ?_
   refine Y.pv F (X.assign rfl (X.kc (Vi 0) rfl)) ?_;clear F ac;intro ac F
   refine Y.nil ?_
   replace F : Fr ac 18 [(4, Vi 0)] := F.sub _
   refine X.thenN ?_
   refine Y.ret ?_
   exact Y.ret0 (v := Vi 0) F (Y.rs1 F rfl (by kernel_rfl)) ⟨by rw [who_3 (by omega) (by omega)], G⟩
  | true =>
   try rw [h9] at F
   have h9p : ((xs.length : Int) < p.nt) := of_decide_eq_true h9
   refine Y.condT (F.ev 17 (.bool true)) ?_
   refine Y.seq ?_
   refine Y.lit (by kernel_rfl) ?_
   refine Y.pv F (X.assign rfl (X.kc (Vi 33) rfl)) ?_;clear F ac;intro ac F
   refine Y.nil ?_
   replace F : Fr ac 18 [(4, Vi 33)] := F.sub _
   refine X.thenN ?_
   refine Y.ret ?_
   refine X.thenR ?_
   exact Y.ret0 (v := Vi 33) F (Y.rs1 F rfl (by kernel_rfl)) ⟨by rw [who_2 (by omega) (by omega)], G⟩
 | true =>
  try rw [h8] at F
  have h8p : ¬ (begE p xs : Int) = 0 := by simpa using h8
  refine Y.condT (F.ev 10 (.bool true)) ?_
  refine Y.seq ?_
  refine Y.lit (by kernel_rfl) ?_
  refine Y.pv F (X.move rfl (F.ev 5 (Vi (begE p xs)))) ?_;clear F ac;intro ac F
  refine Y.pv F (X.assign rfl (F.ev 11 (Vi (begE p xs)))) ?_;clear F ac;intro ac F
  refine Y.nil ?_
  replace F : Fr ac 18 [(4, Vi (begE p xs))] := F.sub _
  refine X.thenN ?_
  refine Y.ret ?_
  refine X.thenR ?_
  exact Y.ret0 (v := Vi (begE p xs)) F (Y.rs1 F rfl (by kernel_rfl)) ⟨by rw [who_1 (by omega)], G⟩
set_option maxRecDepth 100000 in
set_option maxHeartbeats 1000000 in
theorem allowed2_any (p : Pb) (ta ha ba la : Option Addr) (tc hc bc lc : Nat) (a : Option Addr) (c : Nat) (xs : List Int) (w : World) (hP : PbAt w p ta ha ba la tc hc bc lc) (hX : Ints w a xs.length xs) :
  Calls Try.prog 34 #[.agg #[.slice ta p.nt tc, .slice ha p.nh hc, .slice ba p.nb bc, .slice la p.nl lc], .slice a xs.length c] w fun e w' => e = .returned (.tuple #[.bool (allowV p xs), Vi (whoE p xs)]) ∧ Gr w w' := by
 have G := Gr.refl w
 have hpt := hP.t
 have hph := hP.h
 have hpb := hP.b
 have hpl := hP.l
 have hplen := hP.len
 obtain ⟨hn1, hn2, hn3, hn4⟩ := hplen
 have hcp1 := hpt.cap
 have hcp2 := hph.cap
 have hcp3 := hpb.cap
 have hcp4 := hpl.cap
 have hxs := hX
 have hlt := hxs.lt
 refine Y.calls 17 Try.func34 rfl rfl ?_
 intro ac F0
 have F : Fr ac 17 [(0, .agg #[.slice ta p.nt tc, .slice ha p.nh hc, .slice ba p.nb bc, .slice la p.nl lc]), (1, .slice a xs.length c)] := F0.sub _
 clear F0
 refine Y.seq ?_
 refine Y.lit (by kernel_rfl) ?_
 have hgs3 : w.heap.size ≤ w.heap.size := G.size
 refine Y.pv F (X.box rfl (F.ev 0 (.agg #[.slice ta p.nt tc, .slice ha p.nh hc, .slice ba p.nb bc, .slice la p.nl lc])) X.bx) ?_;clear F ac;intro ac F
 have hgs5 : w.heap.size ≤ w.heap.size := G.size
 have g := Gr.alloc w (.cells #[.slice ta p.nt tc, .slice ha p.nh hc, .slice ba p.nb bc, .slice la p.nl lc] 27)
 have hb := heap_alloc_new w (.cells #[.slice ta p.nt tc, .slice ha p.nh hc, .slice ba p.nb bc, .slice la p.nl lc] 27)
 have hbl : w.heap.size < (w.alloc (.cells #[.slice ta p.nt tc, .slice ha p.nh hc, .slice ba p.nb bc, .slice la p.nl lc] 27)).heap.size := by simp
 have hC2 : RCells (w.alloc (.cells #[.slice ta p.nt tc, .slice ha p.nh hc, .slice ba p.nb bc, .slice la p.nl lc] 27)) [(Ad w.heap.size 0, .slice ta p.nt tc), (Ad w.heap.size 1, .slice ha p.nh hc), (Ad w.heap.size 2, .slice ba p.nb bc), (Ad w.heap.size 3, .slice la p.nl lc)] := (RCells.nil w).box (b := w.heap.size) #[.slice ta p.nt tc, .slice ha p.nh hc, .slice ba p.nb bc, .slice la p.nl lc] 27 rfl
 generalize w.alloc (.cells #[.slice ta p.nt tc, .slice ha p.nh hc, .slice ba p.nb bc, .slice la p.nl lc] 27) = w6 at *
 replace G := G.trans g
 have hC := hC2
 clear hC2
 replace hpt := hpt.gr g
 replace hph := hph.gr g
 replace hpb := hpb.gr g
 replace hpl := hpl.gr g
 replace hxs := hxs.gr g
 have hsz4 := hbl
 clear g hb hbl
 refine Y.pv F (X.assign rfl (X.kc (.bool false) rfl)) ?_;clear F ac;intro ac F
 refine Y.pv F (X.assign rfl (X.kc (Vi 0) rfl)) ?_;clear F ac;intro ac F
 refine Y.nil ?_
 replace F : Fr ac 17 [(1, .slice a xs.length c), (2, Vp w.heap.size)] := F.sub _
 refine X.thenN ?_
 refine Y.seq ?_
 refine Y.lit (by kernel_rfl) ?_
 refine Y.pv F (X.load rfl (F.ev 2 (Vp w.heap.size)) (X.ldN (Try.agg27 _) (Try.siz27 _) (Y.atz (⟨w.heap.size, 0, none⟩) (Y.AtFrom.cons (hC.at 0 rfl) (Y.AtFrom.cons (hC.at 1 rfl) (Y.AtFrom.cons (hC.at 2 rfl) (Y.AtFrom.cons (hC.at 3 rfl) (Y.AtFrom.nil _ _ _)))))))) ?_;clear F ac;intro ac F
 refine Y.pv F (X.move rfl (F.ev 1 (.slice a xs.length c))) ?_;clear F ac;intro ac F
 refine Y.pcall F (X.w0 rfl) rfl (X.enter (F := 74) rfl (X.kc (.func (.func 74) #[] #[]) rfl) (X.a2 (F.ev 7 (.agg #[.slice ta p.nt tc, .slice ha p.nh hc, .slice ba p.nb bc, .slice la p.nl lc])) (F.ev 8 (.slice a xs.length c))) (enters_of Try.func74 (by kernel_rfl) rfl _)) (whole_any p ta ha ba la tc hc bc lc a c xs w6 (hP.gr G) (hX.gr G)) ?_
 clear F ac
 rintro e w7 ⟨rfl, g⟩
 refine ⟨_, rfl, ?_⟩
 intro ac F
 replace G := G.trans g
 replace hC := hC.gr g
 replace hpt := hpt.gr g
 replace hph := hph.gr g
 replace hpb := hpb.gr g
 replace hpl := hpl.gr g
 replace hxs := hxs.gr g
 clear g
 refine Y.pv F (X.assign rfl (F.ev 9 (Vi (whoE p xs)))) ?_;clear F ac;intro ac F
 refine Y.nil ?_
 replace F : Fr ac 17 [(1, .slice a xs.length c), (2, Vp w.heap.size), (6, Vi (whoE p xs))] := F.sub _
 refine X.thenN ?_
 refine Y.seq ?_
 refine Y.seq ?_
 refine Y.lit (by kernel_rfl) ?_
 refine Y.pv F (X.move rfl (F.ev 6 (Vi (whoE p xs)))) ?_;clear F ac;intro ac F
 refine Y.pv F (X.binop rfl (F.ev 10 (Vi (whoE p xs))) (X.kc (Vi 0) rfl) (X.neqI Try.underlying31 rfl)) ?_;clear F ac;intro ac F
 refine Y.nil ?_
 replace F : Fr ac 17 [(1, .slice a xs.length c), (2, Vp w.heap.size), (6, Vi (whoE p xs)), (11, .bool ((whoE p xs : Int) != 0))] := F.sub _
 refine X.thenN ?_
 cases h8 : ((whoE p xs : Int) != 0) with
 | false =>
  try rw [h8] at F
  have h8p : (whoE p xs : Int) = 0 := by simpa using h8
  have hbg := (who_ok (p := p) (xs := xs) (by omega)).1
  obtain ⟨-, hp, hlen, hx⟩ := beg_ok hbg
  refine Y.condF (F.ev 11 (.bool false)) ?_
  refine Y.skip ?_
  refine X.thenN ?_
  refine Y.seq ?_
  refine Y.lit (by kernel_rfl) ?_
  refine Y.pv F (X.load rfl (F.ev 2 (Vp w.heap.size)) (X.ldN (Try.agg27 _) (Try.siz27 _) (Y.atz (⟨w.heap.size, 0, none⟩) (Y.AtFrom.cons (hC.at 0 rfl) (Y.AtFrom.cons (hC.at 1 rfl) (Y.AtFrom.cons (hC.at 2 rfl) (Y.AtFrom.cons (hC.at 3 rfl) (Y.AtFrom.nil _ _ _)))))))) ?_;clear F ac;intro ac F
  refine Y.pv F (X.move rfl (F.ev 1 (.slice a xs.length c))) ?_;clear F ac;intro ac F
  refine Y.pcall F (X.w0 rfl) rfl (X.enter (F := 75) rfl (X.kc (.func (.func 75) #[] #[]) rfl) (X.a3 (F.ev 13 (.agg #[.slice ta p.nt tc, .slice ha p.nh hc, .slice ba p.nb bc, .slice la p.nl lc])) (F.ev 14 (.slice a xs.length c)) (X.kc (Vi 100) rfl)) (enters_of Try.func75 (by kernel_rfl) rfl _)) (by have hq := hop2_any p ta ha ba la tc hc bc lc a c xs 100 w7 (hP.gr G) (hX.gr G) hp hx hlen (by decide); rw [hund_100] at hq; exact hq) ?_
  clear F ac
  rintro e w9 ⟨rfl, g⟩
  refine ⟨_, rfl, ?_⟩
  intro ac F
  replace G := G.trans g
  replace hC := hC.gr g
  replace hpt := hpt.gr g
  replace hph := hph.gr g
  replace hpb := hpb.gr g
  replace hpl := hpl.gr g
  replace hxs := hxs.gr g
  clear g
  refine Y.pv F (X.notB rfl (F.ev 15 (.bool (hopeB p (tim p) xs))) rfl) ?_;clear F ac;intro ac F
  refine Y.pv F (X.assign rfl (F.ev 16 (.bool (!(hopeB p (tim p) xs))))) ?_;clear F ac;intro ac F
  refine Y.pv F (X.assign rfl (X.kc (Vi 0) rfl)) ?_;clear F ac;intro ac F
  refine Y.nil ?_
  replace F : Fr ac 17 [(4, .bool (!(hopeB p (tim p) xs))), (5, Vi 0)] := F.sub _
  refine X.thenN ?_
  refine Y.ret ?_
  exact Y.ret0 (v := .tuple #[.bool (!(hopeB p (tim p) xs)), Vi 0]) F (Y.rs2 F rfl (by kernel_rfl) (by kernel_rfl)) ⟨by rw [allow_1 (by omega), (show whoE p xs = 0 by omega)], G⟩
 | true =>
  try rw [h8] at F
  have h8p : ¬ (whoE p xs : Int) = 0 := by simpa using h8
  refine Y.condT (F.ev 11 (.bool true)) ?_
  refine Y.seq ?_
  refine Y.lit (by kernel_rfl) ?_
  refine Y.pv F (X.move rfl (F.ev 6 (Vi (whoE p xs)))) ?_;clear F ac;intro ac F
  refine Y.pv F (X.assign rfl (X.kc (.bool false) rfl)) ?_;clear F ac;intro ac F
  refine Y.pv F (X.assign rfl (F.ev 12 (Vi (whoE p xs)))) ?_;clear F ac;intro ac F
  refine Y.nil ?_
  replace F : Fr ac 17 [(4, .bool false), (5, Vi (whoE p xs))] := F.sub _
  refine X.thenN ?_
  refine Y.ret ?_
  refine X.thenR ?_
  exact Y.ret0 (v := .tuple #[.bool false, Vi (whoE p xs)]) F (Y.rs2 F rfl (by kernel_rfl) (by kernel_rfl)) ⟨by rw [allow_0 (by omega)], G⟩
set_option maxRecDepth 100000 in
set_option maxHeartbeats 1000000 in
theorem cost2_any (p : Pb) (ta ha ba la : Option Addr) (tc hc bc lc : Nat) (a : Option Addr) (c : Nat) (xs : List Int) (w : World) (hP : PbAt w p ta ha ba la tc hc bc lc) (hX : Ints w a xs.length xs) :
  Calls Try.prog 36 #[.agg #[.slice ta p.nt tc, .slice ha p.nh hc, .slice ba p.nb bc, .slice la p.nl lc], .slice a xs.length c] w fun e w' => e = .returned (.tuple #[Vi (costV p xs), Vi (whoE p xs)]) ∧ Gr w w' := by
 have G := Gr.refl w
 have hpt := hP.t
 have hph := hP.h
 have hpb := hP.b
 have hpl := hP.l
 have hplen := hP.len
 obtain ⟨hn1, hn2, hn3, hn4⟩ := hplen
 have hcp1 := hpt.cap
 have hcp2 := hph.cap
 have hcp3 := hpb.cap
 have hcp4 := hpl.cap
 have hxs := hX
 have hlt := hxs.lt
 refine Y.calls 16 Try.func36 rfl rfl ?_
 intro ac F0
 have F : Fr ac 16 [(0, .agg #[.slice ta p.nt tc, .slice ha p.nh hc, .slice ba p.nb bc, .slice la p.nl lc]), (1, .slice a xs.length c)] := F0.sub _
 clear F0
 refine Y.seq ?_
 refine Y.lit (by kernel_rfl) ?_
 have hgs3 : w.heap.size ≤ w.heap.size := G.size
 refine Y.pv F (X.box rfl (F.ev 0 (.agg #[.slice ta p.nt tc, .slice ha p.nh hc, .slice ba p.nb bc, .slice la p.nl lc])) X.bx) ?_;clear F ac;intro ac F
 have hgs5 : w.heap.size ≤ w.heap.size := G.size
 have g := Gr.alloc w (.cells #[.slice ta p.nt tc, .slice ha p.nh hc, .slice ba p.nb bc, .slice la p.nl lc] 27)
 have hb := heap_alloc_new w (.cells #[.slice ta p.nt tc, .slice ha p.nh hc, .slice ba p.nb bc, .slice la p.nl lc] 27)
 have hbl : w.heap.size < (w.alloc (.cells #[.slice ta p.nt tc, .slice ha p.nh hc, .slice ba p.nb bc, .slice la p.nl lc] 27)).heap.size := by simp
 have hC2 : RCells (w.alloc (.cells #[.slice ta p.nt tc, .slice ha p.nh hc, .slice ba p.nb bc, .slice la p.nl lc] 27)) [(Ad w.heap.size 0, .slice ta p.nt tc), (Ad w.heap.size 1, .slice ha p.nh hc), (Ad w.heap.size 2, .slice ba p.nb bc), (Ad w.heap.size 3, .slice la p.nl lc)] := (RCells.nil w).box (b := w.heap.size) #[.slice ta p.nt tc, .slice ha p.nh hc, .slice ba p.nb bc, .slice la p.nl lc] 27 rfl
 generalize w.alloc (.cells #[.slice ta p.nt tc, .slice ha p.nh hc, .slice ba p.nb bc, .slice la p.nl lc] 27) = w6 at *
 replace G := G.trans g
 have hC := hC2
 clear hC2
 replace hpt := hpt.gr g
 replace hph := hph.gr g
 replace hpb := hpb.gr g
 replace hpl := hpl.gr g
 replace hxs := hxs.gr g
 have hsz4 := hbl
 clear g hb hbl
 refine Y.pv F (X.assign rfl (X.kc (Vi 0) rfl)) ?_;clear F ac;intro ac F
 refine Y.pv F (X.assign rfl (X.kc (Vi 0) rfl)) ?_;clear F ac;intro ac F
 refine Y.nil ?_
 replace F : Fr ac 16 [(1, .slice a xs.length c), (2, Vp w.heap.size)] := F.sub _
 refine X.thenN ?_
 refine Y.seq ?_
 refine Y.lit (by kernel_rfl) ?_
 refine Y.pv F (X.load rfl (F.ev 2 (Vp w.heap.size)) (X.ldN (Try.agg27 _) (Try.siz27 _) (Y.atz (⟨w.heap.size, 0, none⟩) (Y.AtFrom.cons (hC.at 0 rfl) (Y.AtFrom.cons (hC.at 1 rfl) (Y.AtFrom.cons (hC.at 2 rfl) (Y.AtFrom.cons (hC.at 3 rfl) (Y.AtFrom.nil _ _ _)))))))) ?_;clear F ac;intro ac F
 refine Y.pv F (X.move rfl (F.ev 1 (.slice a xs.length c))) ?_;clear F ac;intro ac F
 refine Y.pcall F (X.w0 rfl) rfl (X.enter (F := 74) rfl (X.kc (.func (.func 74) #[] #[]) rfl) (X.a2 (F.ev 7 (.agg #[.slice ta p.nt tc, .slice ha p.nh hc, .slice ba p.nb bc, .slice la p.nl lc])) (F.ev 8 (.slice a xs.length c))) (enters_of Try.func74 (by kernel_rfl) rfl _)) (whole_any p ta ha ba la tc hc bc lc a c xs w6 (hP.gr G) (hX.gr G)) ?_
 clear F ac
 rintro e w7 ⟨rfl, g⟩
 refine ⟨_, rfl, ?_⟩
 intro ac F
 replace G := G.trans g
 replace hC := hC.gr g
 replace hpt := hpt.gr g
 replace hph := hph.gr g
 replace hpb := hpb.gr g
 replace hpl := hpl.gr g
 replace hxs := hxs.gr g
 clear g
 refine Y.pv F (X.assign rfl (F.ev 9 (Vi (whoE p xs)))) ?_;clear F ac;intro ac F
 refine Y.nil ?_
 replace F : Fr ac 16 [(1, .slice a xs.length c), (2, Vp w.heap.size), (6, Vi (whoE p xs))] := F.sub _
 refine X.thenN ?_
 refine Y.seq ?_
 refine Y.seq ?_
 refine Y.lit (by kernel_rfl) ?_
 refine Y.pv F (X.move rfl (F.ev 6 (Vi (whoE p xs)))) ?_;clear F ac;intro ac F
 refine Y.pv F (X.binop rfl (F.ev 10 (Vi (whoE p xs))) (X.kc (Vi 0) rfl) (X.neqI Try.underlying31 rfl)) ?_;clear F ac;intro ac F
 refine Y.nil ?_
 replace F : Fr ac 16 [(1, .slice a xs.length c), (2, Vp w.heap.size), (6, Vi (whoE p xs)), (11, .bool ((whoE p xs : Int) != 0))] := F.sub _
 refine X.thenN ?_
 cases h8 : ((whoE p xs : Int) != 0) with
 | false =>
  try rw [h8] at F
  have h8p : (whoE p xs : Int) = 0 := by simpa using h8
  have hbg := (who_ok (p := p) (xs := xs) (by omega)).1
  obtain ⟨-, hp, hlen, hx⟩ := beg_ok hbg
  refine Y.condF (F.ev 11 (.bool false)) ?_
  refine Y.skip ?_
  refine X.thenN ?_
  refine Y.seq ?_
  refine Y.lit (by kernel_rfl) ?_
  refine Y.pv F (X.load rfl (F.ev 2 (Vp w.heap.size)) (X.ldN (Try.agg27 _) (Try.siz27 _) (Y.atz (⟨w.heap.size, 0, none⟩) (Y.AtFrom.cons (hC.at 0 rfl) (Y.AtFrom.cons (hC.at 1 rfl) (Y.AtFrom.cons (hC.at 2 rfl) (Y.AtFrom.cons (hC.at 3 rfl) (Y.AtFrom.nil _ _ _)))))))) ?_;clear F ac;intro ac F
  refine Y.pv F (X.move rfl (F.ev 1 (.slice a xs.length c))) ?_;clear F ac;intro ac F
  refine Y.pcall F (X.w0 rfl) rfl (X.enter (F := 77) rfl (X.kc (.func (.func 77) #[] #[]) rfl) (X.a2 (F.ev 13 (.agg #[.slice ta p.nt tc, .slice ha p.nh hc, .slice ba p.nb bc, .slice la p.nl lc])) (F.ev 14 (.slice a xs.length c))) (enters_of Try.func77 (by kernel_rfl) rfl _)) (bnd2_any p ta ha ba la tc hc bc lc a c xs w7 (hP.gr G) (hX.gr G) hp hx hlen) ?_
  clear F ac
  rintro e w9 ⟨rfl, g⟩
  refine ⟨_, rfl, ?_⟩
  intro ac F
  replace G := G.trans g
  replace hC := hC.gr g
  replace hpt := hpt.gr g
  replace hph := hph.gr g
  replace hpb := hpb.gr g
  replace hpl := hpl.gr g
  replace hxs := hxs.gr g
  clear g
  refine Y.pv F (X.assign rfl (F.ev 15 (Vi (bndV p xs)))) ?_;clear F ac;intro ac F
  refine Y.pv F (X.assign rfl (X.kc (Vi 0) rfl)) ?_;clear F ac;intro ac F
  refine Y.nil ?_
  replace F : Fr ac 16 [(4, Vi (bndV p xs)), (5, Vi 0)] := F.sub _
  refine X.thenN ?_
  refine Y.ret ?_
  exact Y.ret0 (v := .tuple #[Vi (bndV p xs), Vi 0]) F (Y.rs2 F rfl (by kernel_rfl) (by kernel_rfl)) ⟨by rw [cost_1 (by omega), (show whoE p xs = 0 by omega)], G⟩
 | true =>
  try rw [h8] at F
  have h8p : ¬ (whoE p xs : Int) = 0 := by simpa using h8
  refine Y.condT (F.ev 11 (.bool true)) ?_
  refine Y.seq ?_
  refine Y.lit (by kernel_rfl) ?_
  refine Y.pv F (X.move rfl (F.ev 6 (Vi (whoE p xs)))) ?_;clear F ac;intro ac F
  refine Y.pv F (X.assign rfl (X.kc (Vi 0) rfl)) ?_;clear F ac;intro ac F
  refine Y.pv F (X.assign rfl (F.ev 12 (Vi (whoE p xs)))) ?_;clear F ac;intro ac F
  refine Y.nil ?_
  replace F : Fr ac 16 [(4, Vi 0), (5, Vi (whoE p xs))] := F.sub _
  refine X.thenN ?_
  refine Y.ret ?_
  refine X.thenR ?_
  exact Y.ret0 (v := .tuple #[Vi 0, Vi (whoE p xs)]) F (Y.rs2 F rfl (by kernel_rfl) (by kernel_rfl)) ⟨by rw [cost_0 (by omega)], G⟩
end
end Go.Proofs.Ytodedneanlekdaa
