/- Several texts of this claim in one file. (1) Contract: the reference's Repair. (2) Allowed plans are those of the list; one that does not use the host stays. Nothing of the program is proved here. (3) Contract: Repair. (4) Contracts: ints, Copy, Same. (5) Contract: the law about Check. -/
import Derived.Test.YtodedneanlekdaaBd13
import Derived.Test.YtodedneanlekdaaBd14
import Derived.Test.YtodedneanlekdaaBd5
namespace Go.Proofs.Ytodedneanlekdaa
set_option linter.unusedSimpArgs false
set_option linter.unusedVariables false
section
open Go.RowKit

theorem srtK_key (key : List Int → Int × Int) (l : List (List Int)) : ∀ y ∈ srtK key l, y.1 = key y.2 := by
  have hm : ∀ (l : List (List Int)) (s : List ((Int × Int) × List Int)), (∀ y ∈ s, y.1 = key y.2) → ∀ y ∈ l.foldl (fun s x => insR s (key x, x)) s, y.1 = key y.2 := by
    intro l
    induction l with
    | nil => intro s h; exact h
    | cons a l ih =>
      intro s h
      refine ih _ fun y hy => ?_
      unfold insR insAt at hy
      rw [List.mem_append, List.mem_cons] at hy
      rcases hy with hy | hy | hy
      · exact h y (List.mem_of_mem_take hy)
      · subst hy; rfl
      · exact h y (List.mem_of_mem_drop hy)
  exact hm l [] (fun y hy => by simp at hy)
theorem srt_len {p : Pb} {E : List BegE} {x : BegE} (hm : E.map BegE.xs = sortedL p) (hx : x ∈ E) : x.xs.length = p.nt := by
  have h1 : x.xs ∈ sortedL p := by rw [← hm]; exact List.mem_map_of_mem hx
  have h2 : ∀ (l : List (List Int)) (s : List ((Int × Int) × List Int)), ∀ y ∈ l.foldl (fun s x => insR s (keyC p x, x)) s, y ∈ s ∨ y.2 ∈ l := by
    intro l
    induction l with
    | nil => intro s y hy; exact .inl hy
    | cons a l ih =>
      intro s y hy
      rcases ih _ y hy with h | h
      · unfold insR insAt at h
        rw [List.mem_append, List.mem_cons] at h
        rcases h with h | h | h
        · exact .inl (List.mem_of_mem_take h)
        · subst h; exact .inr List.mem_cons_self
        · exact .inl (List.mem_of_mem_drop h)
      · exact .inr (List.mem_cons_of_mem _ h)
  obtain ⟨y, hy, he⟩ := List.mem_map.1 h1
  rcases h2 _ _ y hy with h | h
  · simp at h
  · rw [← he]; exact (mem_allP h).2.1
theorem usn_t {xs : List Int} {h : Int} {k : Nat} (e : usedN xs h k = true) : usedN xs h (k + 1) = true := by simp only [usedN, e, Bool.true_or]
theorem usn_f {xs : List Int} {h : Int} {k : Nat} (e : usedN xs h k = false) : usedN xs h (k + 1) = ((xs[k]?.getD 0 : Int) == h) := by
  simp only [usedN, e, Bool.false_or]
  show decide (xs[k]?.getD 0 = h) = _
  by_cases q : xs[k]?.getD 0 = h
  · simp [q]
  · simp [q]
/-- what the reference has found in the first i plans -/
def RpI (E : List BegE) (plan : List Int) (host : Int) (i : Nat) (ba : Option Addr) (bn bc : Nat) (mv : Int) : Prop :=
  (bst (fun x => !usesB x host) (fun x => difV x plan) ((E.take i).map BegE.xs) = none ∧ ba = none ∧ bn = 0 ∧ bc = 0 ∧ mv = -1) ∨ ∃ x ∈ E, bst (fun x => !usesB x host) (fun x => difV x plan) ((E.take i).map BegE.xs) = some x.xs ∧ ba = x.a ∧ bn = x.xs.length ∧ bc = x.c ∧ mv = difV x.xs plan
section
variable {E : List BegE} {plan : List Int} {host mv : Int} {i bn bc : Nat} {ba : Option Addr} {x : BegE}
theorem rp_skip (h : RpI E plan host i ba bn bc mv) (hx : E[i]? = some x) (hu : usesB x.xs host = true) : RpI E plan host (i + 1) ba bn bc mv := by
  unfold RpI
  rw [hd_next hx, bst_snoc]
  simp only [hu, Bool.not_true, Bool.false_eq_true, if_false, cmb_none]
  exact h
theorem difV_bd {xs ys : List Int} : 0 ≤ difV xs ys ∧ difV xs ys ≤ xs.length := difN_bd
theorem rp_new (h : RpI E plan host i ba bn bc mv) (hx : E[i]? = some x) (hu : usesB x.xs host = false) (hc : mv < 0 ∨ difV x.xs plan < mv) : RpI E plan host (i + 1) x.a x.xs.length x.c (difV x.xs plan) := by
  unfold RpI
  rw [hd_next hx, bst_snoc]
  simp only [hu, Bool.not_false, if_true]
  refine .inr ⟨x, List.mem_of_getElem? hx, ?_, rfl, rfl, rfl, rfl⟩
  rcases h with ⟨h1, _⟩ | ⟨y, _, h1, _, _, _, h2⟩
  · rw [h1]; rfl
  · rw [h1]
    have := difV_bd (xs := y.xs) (ys := plan)
    simp only [cmb]
    rw [if_pos (by omega)]
theorem rp_keep (h : RpI E plan host i ba bn bc mv) (hx : E[i]? = some x) (hu : usesB x.xs host = false) (h1 : ¬ mv < 0) (h2 : ¬ difV x.xs plan < mv) : RpI E plan host (i + 1) ba bn bc mv := by
  rcases h with ⟨_, _, _, _, h3⟩ | ⟨y, hy, h3, h4, h5, h6, h7⟩
  · omega
  · refine .inr ⟨y, hy, ?_, h4, h5, h6, h7⟩
    rw [hd_next hx, bst_snoc, h3]
    simp only [hu, Bool.not_false, if_true, cmb]
    rw [if_neg (by omega)]
theorem rp_end {p : Pb} (h : RpI E plan host E.length ba bn bc mv) (hE : E.map BegE.xs = sortedL p) : (mv < 0 ∧ repO p plan host = none) ∨ (¬ mv < 0 ∧ ∃ x ∈ E, ∃ y, repO p plan host = some y ∧ y.2 = x.xs ∧ y.1.1 = mv ∧ ba = x.a ∧ bn = x.xs.length ∧ bc = x.c) := by
  have hl := rep_law (p := p) (fun x => !usesB x host) (fun x => difV x plan) [] (allP p) rfl
  rw [List.nil_append] at hl
  rcases h with ⟨h1, _, _, _, h3⟩ | ⟨x, hx, h1, h4, h5, h6, h7⟩
  · rw [List.take_length, hE] at h1
    refine .inl ⟨by omega, ?_⟩
    unfold repO
    cases hr : (srtK (fun x => (difV x plan, bndV p x)) ((allP p).filter fun x => !usesB x host))[0]? with
    | none => rfl
    | some y => rw [hr] at hl; rw [show (srtK (keyC p) (allP p)).map (·.2) = sortedL p from rfl, h1] at hl; cases hl
  · rw [List.take_length, hE] at h1
    have hb := difV_bd (xs := x.xs) (ys := plan)
    refine .inr ⟨by omega, x, hx, ?_⟩
    unfold repO
    cases hr : (srtK (fun x => (difV x plan, bndV p x)) ((allP p).filter fun x => !usesB x host))[0]? with
    | none => rw [hr] at hl; rw [show (srtK (keyC p) (allP p)).map (·.2) = sortedL p from rfl, h1] at hl; cases hl
    | some y =>
      rw [hr, show (srtK (keyC p) (allP p)).map (·.2) = sortedL p from rfl, h1] at hl
      simp only [Option.map_some, Option.some.injEq] at hl
      have hk := srtK_key (fun x => (difV x plan, bndV p x)) _ y (List.mem_of_getElem? hr)
      exact ⟨y, rfl, hl.symm, by rw [hk, ← hl]; exact h7.symm, h4, h5, h6⟩
end
set_option maxRecDepth 100000 in
set_option maxHeartbeats 4000000 in
theorem repair2_any (p : Pb) (ta ha ba la : Option Addr) (tc hc bc lc : Nat) (a : Option Addr) (c : Nat) (xs : List Int) (h9 : Int) (hsm : chkE p = 0 → p.nt ≤ 5 ∧ p.nh ≤ 4) (w : World) (hP : PbAt w p ta ha ba la tc hc bc lc) (hX : Ints w a xs.length xs) :
  Calls Try.prog 42 #[.agg #[.slice ta p.nt tc, .slice ha p.nh hc, .slice ba p.nb bc, .slice la p.nl lc], .slice a xs.length c, Vi h9] w fun e w' => ∃ a c, e = .returned (.tuple #[.slice a (repR p xs h9).1.length c, Vi (repR p xs h9).2.1, Vi (repR p xs h9).2.2]) ∧ Ints w' a (repR p xs h9).1.length (repR p xs h9).1 ∧ Gr w w' := by
 have G := Gr.refl w
 have hpt := hP.t
 have hph := hP.h
 have hpb := hP.b
 have hpl := hP.l
 have hplen := hP.len
 obtain ⟨hn1, hn2, hn3, hn4⟩ := hplen
 have hcp1 := hpt.cap
 have hcp2 := hph.cap
 have hcp3 := hpb.cap
 have hcp4 := hpl.cap
 have hxs := hX
 have hlt := hX.lt
 refine Y.calls 87 Try.func42 rfl rfl ?_
 intro ac F0
 have F : Fr ac 87 [(0, .agg #[.slice ta p.nt tc, .slice ha p.nh hc, .slice ba p.nb bc, .slice la p.nl lc]), (1, .slice a xs.length c), (2, Vi h9)] := F0.sub _
 clear F0
 refine Y.sl ?_
 have hgs3 : w.heap.size ≤ w.heap.size := G.size
 refine Y.pv F (X.box rfl (F.ev 0 (.agg #[.slice ta p.nt tc, .slice ha p.nh hc, .slice ba p.nb bc, .slice la p.nl lc])) X.bx) ?_;clear F ac;intro ac F
 have hgs5 : w.heap.size ≤ w.heap.size := G.size
 obtain ⟨w6, hw_, g, hb, hbl, hC2⟩ := Y.bxd (RCells.nil w) #[.slice ta p.nt tc, .slice ha p.nh hc, .slice ba p.nb bc, .slice la p.nl lc] 27;rw [hw_];clear hw_
 replace G := G.trans g
 have hC := hC2
 clear hC2
 replace hpt := hpt.gr g
 replace hph := hph.gr g
 replace hpb := hpb.gr g
 replace hpl := hpl.gr g
 replace hxs := hxs.gr g
 have hsz4 := hbl
 clear g hb hbl
 refine Y.pv3 F (X.assign rfl (X.kc (.slice none 0 0) rfl)) (fun _ F=>X.assign rfl (X.kc (Vi 0) rfl)) (fun _ F=>X.assign rfl (X.kc (Vi 0) rfl)) ?_;clear F ac;intro ac F
 refine Y.nt F [(1, .slice a xs.length c), (2, Vi h9), (3, Vp w.heap.size)] ?_;clear F ac;intro ac F
 refine Y.sl ?_
 refine Y.pv2 F (X.load rfl (F.ev 3 (Vp w.heap.size)) (X.ldN (Try.agg27 _) (Try.siz27 _) (Y.atz (⟨w.heap.size, 0, none⟩) (Y.AtFrom.cons (hC.at 0 rfl) (Y.AtFrom.cons (hC.at 1 rfl) (Y.AtFrom.cons (hC.at 2 rfl) (Y.AtFrom.cons (hC.at 3 rfl) (Y.AtFrom.nil _ _ _)))))))) (fun _ F=>X.move rfl (F.ev 1 (.slice a xs.length c))) ?_;clear F ac;intro ac F
 refine Y.pc F 74 (X.a2 (F.ev 16 (.agg #[.slice ta p.nt tc, .slice ha p.nh hc, .slice ba p.nb bc, .slice la p.nl lc])) (F.ev 17 (.slice a xs.length c))) Try.func74 (whole_any p ta ha ba la tc hc bc lc a c xs w6 (hP.gr G) (hX.gr G)) ?_
 clear F ac
 rintro e w7 ⟨rfl, g⟩
 refine ⟨_, rfl, ?_⟩
 intro ac F
 replace G := G.trans g
 replace hC := hC.gr g
 replace hpt := hpt.gr g
 replace hph := hph.gr g
 replace hpb := hpb.gr g
 replace hpl := hpl.gr g
 replace hxs := hxs.gr g
 clear g
 refine Y.pv F (X.assign rfl (F.ev 18 (Vi (whoE p xs)))) ?_;clear F ac;intro ac F
 refine Y.nt F [(1, .slice a xs.length c), (2, Vi h9), (3, Vp w.heap.size), (9, Vi (whoE p xs))] ?_;clear F ac;intro ac F
 refine Y.seq ?_
 refine Y.sg F [(1, .slice a xs.length c), (2, Vi h9), (3, Vp w.heap.size), (9, Vi (whoE p xs)), (20, .bool ((whoE p xs : Int) != 0))] (Y.pv F (X.move rfl (F.ev 9 (Vi (whoE p xs)))) fun ac F=>Y.pv F (X.binop rfl (F.ev 19 (Vi (whoE p xs))) (X.kc (Vi 0) rfl) (X.neqI Try.underlying31 rfl)) fun ac F=>Y.fin F) ?_;clear F ac;intro ac F
 cases h8 : ((whoE p xs : Int) != 0) with
 | false =>
  try rw [h8] at F
  have h8p : (whoE p xs : Int) = 0 := by simpa using h8
  have hwh : whoE p xs = 0 := by omega
  have hbg := (who_ok hwh).1
  have hxl := (who_ok hwh).2
  obtain ⟨hck, hp, hlen, hx⟩ := beg_ok hbg
  refine Y.condF (F.ev 20 (.bool false)) ?_
  refine Y.skip ?_
  refine X.thenN ?_
  refine Y.seq ?_
  refine Y.sl ?_
  refine Y.pv2 F (X.load rfl (F.ev 3 (Vp w.heap.size)) (X.ldN (Try.agg27 _) (Try.siz27 _) (Y.atz (⟨w.heap.size, 0, none⟩) (Y.AtFrom.cons (hC.at 0 rfl) (Y.AtFrom.cons (hC.at 1 rfl) (Y.AtFrom.cons (hC.at 2 rfl) (Y.AtFrom.cons (hC.at 3 rfl) (Y.AtFrom.nil _ _ _)))))))) (fun _ F=>X.move rfl (F.ev 2 (Vi h9))) ?_;clear F ac;intro ac F
  refine Y.pc F 62 (X.a2 (F.ev 22 (.agg #[.slice ta p.nt tc, .slice ha p.nh hc, .slice ba p.nb bc, .slice la p.nl lc])) (F.ev 23 (Vi h9))) Try.func62 (isHost_any p ta ha ba la tc hc bc lc h9 w7) ?_
  clear F ac
  rintro e w9 ⟨rfl, g⟩
  refine ⟨_, rfl, ?_⟩
  intro ac F
  replace G := G.trans g
  replace hC := hC.gr g
  replace hpt := hpt.gr g
  replace hph := hph.gr g
  replace hpb := hpb.gr g
  replace hpl := hpl.gr g
  replace hxs := hxs.gr g
  clear g
  refine Y.pv F (X.notB rfl (F.ev 24 (.bool (isH p h9))) rfl) ?_;clear F ac;intro ac F
  refine Y.nt F [(1, .slice a xs.length c), (2, Vi h9), (3, Vp w.heap.size), (25, .bool (!(isH p h9)))] ?_;clear F ac;intro ac F
  cases h10 : isH p h9 with
  | false =>
   try rw [h10] at F
   refine Y.condT (F.ev 25 (.bool true)) ?_
   refine Y.sg F [(6, .slice none 0 0), (7, Vi 0), (8, Vi 1)] (Y.pv F (X.assign rfl (X.kc (.slice none 0 0) rfl)) fun ac F=>Y.pv F (X.assign rfl (X.kc (Vi 0) rfl)) fun ac F=>Y.pv F (X.assign rfl (X.kc (Vi 1) rfl)) fun ac F=>Y.fin F) ?_;clear F ac;intro ac F
   refine Y.ret ?_
   refine X.thenR ?_
   have hb := rep_1 hwh h10
   exact Y.ret0 (v := .tuple #[.slice none 0 0, Vi 0, Vi 1]) F (Y.rs3 F rfl (by kernel_rfl) (by kernel_rfl) (by kernel_rfl)) ⟨none, 0, by rw [hb]; rfl, by rw [hb]; exact Ints.nilZ _, G⟩
  | true =>
   try rw [h10] at F
   refine Y.condF (F.ev 25 (.bool false)) ?_
   refine Y.skip ?_
   refine X.thenN ?_
   refine Y.seq ?_
   refine Y.region F [some (.agg #[.slice ta p.nt tc, .slice ha p.nh hc, .slice ba p.nb bc, .slice la p.nl lc]), some (.agg #[.slice ta p.nt tc, .slice ha p.nh hc, .slice ba p.nb bc, .slice la p.nl lc]), none, none, none] [(2, Y.MP.rr (allP p)), (3, Y.MP.rr (sortedL p)), (4, Y.MP.rr (sortedL p))] rfl ⟨by kernel_rfl, of_decide_eq_true (by kernel_rfl), by kernel_rfl, by kernel_rfl, by kernel_rfl⟩ ⟨?_, ?_, ?_, ?_, ?_, trivial⟩ ?_
   ·intro ac done u W Sx hR
    have g : Gr w9 W := hR.1
    exact X.vl (X.load rfl (Sx.ev 3 (Vp w.heap.size)) (X.ldN (Try.agg27 _) (Try.siz27 _) (Y.atz (⟨w.heap.size, 0, none⟩) (Y.AtFrom.cons ((hC.gr g).at 0 rfl) (Y.AtFrom.cons ((hC.gr g).at 1 rfl) (Y.AtFrom.cons ((hC.gr g).at 2 rfl) (Y.AtFrom.cons ((hC.gr g).at 3 rfl) (Y.AtFrom.nil _ _ _)))))))) hR.st0
   ·intro ac done u W Sx hR
    have g : Gr w9 W := hR.1
    exact X.vl (X.load rfl (Sx.ev 3 (Vp w.heap.size)) (X.ldN (Try.agg27 _) (Try.siz27 _) (Y.atz (⟨w.heap.size, 0, none⟩) (Y.AtFrom.cons ((hC.gr g).at 0 rfl) (Y.AtFrom.cons ((hC.gr g).at 1 rfl) (Y.AtFrom.cons ((hC.gr g).at 2 rfl) (Y.AtFrom.cons ((hC.gr g).at 3 rfl) (Y.AtFrom.nil _ _ _)))))))) hR.st0
   ·intro ac done u W Sx hR
    have g : Gr w9 W := hR.1
    refine X.call (X.w0 rfl) (X.enter (F := 68) rfl (X.kc (.func (.func 68) #[] #[]) rfl) (X.a2 (Sx.ev 27 (.agg #[.slice ta p.nt tc, .slice ha p.nh hc, .slice ba p.nb bc, .slice la p.nl lc])) (X.kc (.slice none 0 0) rfl)) (enters_of Try.func68 (by kernel_rfl) rfl _)) (all_mp p ta ha ba la tc hc bc lc hp (hsm hck) W (hP.gr (G.trans g))) ?_
    rintro e W2 ⟨v, rfl, hp, g2⟩
    exact ⟨_, rfl, X.un rfl, hR.new (q := Y.MP.rr (allP p)) g2 rfl hp⟩
   ·intro ac done u W Sx hR
    have g : Gr w9 W := hR.1
    obtain ⟨ra11, rc11, E11, e2, hr11, hm11, hc11, hl11⟩ := hR.get (i := 2) (Y.MP.rr (allP p)) rfl (Sx.an 2 (by kernel_rfl))
    refine X.call (X.w0 rfl) (X.enter (F := 67) rfl (X.kc (.func (.func 67) #[] #[]) rfl) (X.a2 (Sx.ev 26 (.agg #[.slice ta p.nt tc, .slice ha p.nh hc, .slice ba p.nb bc, .slice la p.nl lc])) ((Sx.own 2 28 rfl).trans e2)) (enters_of Try.func67 (by kernel_rfl) rfl _)) (srt_mp p ta ha ba la tc hc bc lc ra11 rc11 E11 hp W (hP.gr (G.trans g)) hr11 hm11 hl11) ?_
    rintro e W2 ⟨v, rfl, hp, g2⟩
    exact ⟨_, rfl, X.un rfl, hR.new (q := Y.MP.rr (sortedL p)) g2 rfl hp⟩
   ·intro ac done u W Sx hR
    obtain ⟨ra12, rc12, E12, e3, hr12, hm12, hc12, hl12⟩ := hR.get (i := 3) (Y.MP.rr (sortedL p)) rfl (Sx.an 3 (by kernel_rfl))
    exact X.valN (X.w0 rfl) rfl (X.assign rfl (Sx.own 3 29 rfl)) (hR.new (q := Y.MP.rr (sortedL p)) (Gr.refl _) rfl ⟨ra12, rc12, E12, e3, hr12, hm12, hc12, hl12⟩)
   intro ac u w14 hs hd hl ho hR
   have g : Gr w9 w14 := hR.1
   obtain ⟨ra11, rc11, E11, e2, hr11, hm11, hc11, hl11⟩ := hR.get (i := 2) (Y.MP.rr (allP p)) rfl rfl
   obtain ⟨ra12, rc12, E12, e3, hr12, hm12, hc12, hl12⟩ := hR.get (i := 3) (Y.MP.rr (sortedL p)) rfl rfl
   obtain ⟨ra13, rc13, E13, e4, hr13, hm13, hc13, hl13⟩ := hR.get (i := 4) (Y.MP.rr (sortedL p)) rfl rfl
   replace F : Fr ac 87 [(1, .slice a xs.length c), (2, Vi h9)] := X.fr hs hd hl _ (by kernel_rfl)
   replace F := F.add (ho 4 10 rfl) e4
   replace F : Fr ac 87 [(1, .slice a xs.length c), (2, Vi h9), (10, .slice ra13 E13.length rc13)] := F.sub _
   clear e2 e3 e4
   clear hs hd hl ho hR
   replace G := G.trans g
   replace hC := hC.gr g
   replace hpt := hpt.gr g
   replace hph := hph.gr g
   replace hpb := hpb.gr g
   replace hpl := hpl.gr g
   replace hxs := hxs.gr g
   clear g
   refine X.thenN ?_
   refine Y.sg F [(1, .slice a xs.length c), (2, Vi h9), (10, .slice ra13 E13.length rc13), (11, .slice none 0 0)] (Y.pv F (X.assign rfl (X.kc (.slice none 0 0) rfl)) fun ac F=>Y.fin F) ?_;clear F ac;intro ac F
   refine Y.sg F [(1, .slice a xs.length c), (2, Vi h9), (10, .slice ra13 E13.length rc13), (11, .slice none 0 0), (12, Vi (-1))] (Y.pv F (X.assign rfl (X.kc (Vi (-1)) rfl)) fun ac F=>Y.fin F) ?_;clear F ac;intro ac F
   refine Y.seq ?_
   refine Y.sg F [(1, .slice a xs.length c), (2, Vi h9), (10, .slice ra13 E13.length rc13), (11, .slice none 0 0), (12, Vi (-1)), (13, Vi 0)] (Y.pv F (X.assign rfl (X.kc (Vi 0) rfl)) fun ac F=>Y.fin F) ?_;clear F ac;intro ac F
   refine Y.block ?_
   refine Y.loop (fun me_ ac wr => ∃ (i : Nat) (bb : Option Addr) (bn b9 : Nat) (mv : Int), me_ = E13.length - i ∧ Only (fun b => False) w14 wr ∧ i ≤ E13.length ∧ RpI E13 xs h9 i bb bn b9 mv ∧ Fr ac 87 [(1, .slice a xs.length c), (2, Vi h9), (10, .slice ra13 E13.length rc13), (11, .slice bb bn b9), (12, Vi mv), (13, Vi i)]) _ ⟨0, none, 0, 0, -1, rfl, Only.refl _ _, Nat.zero_le _, .inl ⟨rfl, rfl, rfl, rfl, rfl⟩, F.sub _⟩ ?_
   have hptB1 := hpt
   have hphB1 := hph
   have hpbB1 := hpb
   have hplB1 := hpl
   have hxsB1 := hxs
   have hr13B1 := hr13
   have GB1 := G
   have hCB1 := hC
   clear F ac
   intro me_ ac w15 hI
   obtain ⟨i, bb, bn, b9, mv, rfl, hO1, hi, hrp, F⟩ := hI
   replace G := GB1.trans (hO1.gr (fun _ _ h => h))
   replace hpt := (hP.t).gr G
   replace hph := (hP.h).gr G
   replace hpb := (hP.b).gr G
   replace hpl := (hP.l).gr G
   replace hxs := (hX).gr G
   replace hr13 := hr13B1.gr (hO1.gr (fun _ _ h => h))
   replace hC := (RCells.cons (hO1.cell (hCB1.at 0 rfl) (fun h => h)) (RCells.cons (hO1.cell (hCB1.at 1 rfl) (fun h => h)) (RCells.cons (hO1.cell (hCB1.at 2 rfl) (fun h => h)) (RCells.cons (hO1.cell (hCB1.at 3 rfl) (fun h => h)) (RCells.nil _)))))
   refine Y.seq ?_
   refine Y.sg F [(1, .slice a xs.length c), (2, Vi h9), (10, .slice ra13 E13.length rc13), (11, .slice bb bn b9), (12, Vi mv), (13, Vi i), (33, .bool (decide ((i : Int) < E13.length)))] (Y.pv F (X.move rfl (F.ev 13 (Vi i))) fun ac F=>Y.pv F (X.move rfl (F.ev 10 (.slice ra13 E13.length rc13))) fun ac F=>Y.pv F (X.len1 Try.underlying38 rfl (F.ev 31 (.slice ra13 E13.length rc13))) fun ac F=>Y.pv F (X.binop rfl (F.ev 30 (Vi i)) (F.ev 32 (Vi E13.length)) (X.lssI Try.underlying3 rfl)) fun ac F=>Y.fin F) ?_;clear F ac;intro ac F
   cases h16 : decide ((i : Int) < E13.length) with
   | false =>
    try rw [h16] at F
    have h16p : ¬ ((i : Int) < E13.length) := of_decide_eq_false h16
    obtain rfl : i = E13.length := by omega
    have hre := rp_end hrp hm13
    refine Y.condF (F.ev 33 (.bool false)) ?_
    refine Y.exit ?_
    refine X.thenX (X.thenX (X.blockX (X.thenN ?_)))
    refine Y.seq ?_
    refine Y.sg F [(11, .slice bb bn b9), (12, Vi mv), (84, .bool (decide ((mv : Int) < 0)))] (Y.pv F (X.move rfl (F.ev 12 (Vi mv))) fun ac F=>Y.pv F (X.binop rfl (F.ev 83 (Vi mv)) (X.kc (Vi 0) rfl) (X.lssI Try.underlying3 rfl)) fun ac F=>Y.fin F) ?_;clear F ac;intro ac F
    cases h17 : decide ((mv : Int) < 0) with
    | false =>
     try rw [h17] at F
     have h17p : ¬ ((mv : Int) < 0) := of_decide_eq_false h17
     refine Y.condF (F.ev 84 (.bool false)) ?_
     refine Y.skip ?_
     refine X.thenN ?_
     refine Y.sg F [(6, .slice bb bn b9), (7, Vi mv), (8, Vi 0)] (Y.pv F (X.move rfl (F.ev 11 (.slice bb bn b9))) fun ac F=>Y.pv F (X.move rfl (F.ev 12 (Vi mv))) fun ac F=>Y.pv F (X.assign rfl (F.ev 85 (.slice bb bn b9))) fun ac F=>Y.pv F (X.assign rfl (F.ev 86 (Vi mv))) fun ac F=>Y.pv F (X.assign rfl (X.kc (Vi 0) rfl)) fun ac F=>Y.fin F) ?_;clear F ac;intro ac F
     refine Y.ret ?_
     obtain ⟨-, x8, hx8, y, hy, hy2, hy3, hb1, hb2, hb3⟩ := hre.resolve_left (fun z => by have := z.1; omega)
     have hb := rep_3 hwh h10 hy
     obtain ⟨i8, hi8⟩ := List.getElem?_of_mem hx8
     obtain ⟨_, _, _, hI8⟩ := hr13 i8 x8 hi8
     exact Y.ret0 (v := .tuple #[.slice bb bn b9, Vi mv, Vi 0]) F (Y.rs3 F rfl (by kernel_rfl) (by kernel_rfl) (by kernel_rfl)) ⟨_, _, by rw [hb]; show _ = Ending.returned (.tuple #[.slice x8.a y.2.length x8.c, Vi y.1.1, Vi 0]); rw [hy2, hy3, hb1, hb2, hb3], by rw [hb]; show Ints _ x8.a y.2.length y.2; rw [hy2]; exact hI8, G⟩
    | true =>
     try rw [h17] at F
     have h17p : ((mv : Int) < 0) := of_decide_eq_true h17
     refine Y.condT (F.ev 84 (.bool true)) ?_
     refine Y.sg F [(6, .slice none 0 0), (7, Vi 0), (8, Vi 3)] (Y.pv F (X.assign rfl (X.kc (.slice none 0 0) rfl)) fun ac F=>Y.pv F (X.assign rfl (X.kc (Vi 0) rfl)) fun ac F=>Y.pv F (X.assign rfl (X.kc (Vi 3) rfl)) fun ac F=>Y.fin F) ?_;clear F ac;intro ac F
     refine Y.ret ?_
     refine X.thenR ?_
     have hb := rep_2 hwh h10 (hre.elim (fun z => z.2) (fun z => absurd (by omega) z.1))
     exact Y.ret0 (v := .tuple #[.slice none 0 0, Vi 0, Vi 3]) F (Y.rs3 F rfl (by kernel_rfl) (by kernel_rfl) (by kernel_rfl)) ⟨none, 0, by rw [hb]; rfl, by rw [hb]; exact Ints.nilZ _, G⟩
   | true =>
    try rw [h16] at F
    have h16p : ((i : Int) < E13.length) := of_decide_eq_true h16
    obtain ⟨x9, hx9⟩ : ∃ x, E13[i]? = some x := ⟨_, List.getElem?_eq_getElem (by omega)⟩
    have hml9 := srt_len hm13 (List.mem_of_getElem? hx9)
    obtain ⟨pd9, pe9, pc9, hIx9⟩ := hr13 i x9 hx9
    have hzl9 := hIx9.lt
    obtain ⟨ax, hax⟩ : ∃ z, x9.a = z := ⟨_, rfl⟩
    rw [hax] at pc9 hIx9
    subst pe9
    replace hC := hC.append (show RCells w15 ([(pd9.add i, .slice ax x9.xs.length x9.c)]) from (RCells.cons pc9 (RCells.nil _)))
    refine Y.condT (F.ev 33 (.bool true)) ?_
    refine Y.skip ?_
    refine X.thenN ?_
    refine Y.seq ?_
    refine Y.block ?_
    refine Y.sg F [(1, .slice a xs.length c), (2, Vi h9), (10, .slice (some pd9) E13.length rc13), (11, .slice bb bn b9), (12, Vi mv), (13, Vi i), (14, .bool false)] (Y.pv F (X.assign rfl (X.kc (.bool false) rfl)) fun ac F=>Y.fin F) ?_;clear F ac;intro ac F
    refine Y.seq ?_
    refine Y.sg F [(1, .slice a xs.length c), (2, Vi h9), (10, .slice (some pd9) E13.length rc13), (11, .slice bb bn b9), (12, Vi mv), (13, Vi i), (14, .bool false), (15, Vi 0)] (Y.pv F (X.assign rfl (X.kc (Vi 0) rfl)) fun ac F=>Y.fin F) ?_;clear F ac;intro ac F
    refine Y.block ?_
    refine Y.loop (fun me_ ac wr => ∃ (k : Nat), me_ = x9.xs.length - k ∧ Only (fun b => False) w15 wr ∧ k ≤ x9.xs.length ∧ Fr ac 87 [(1, .slice a xs.length c), (2, Vi h9), (10, .slice (some pd9) E13.length rc13), (11, .slice bb bn b9), (12, Vi mv), (13, Vi i), (14, .bool (usedN x9.xs h9 k)), (15, Vi k)]) _ ⟨0, rfl, Only.refl _ _, Nat.zero_le _, F.sub _⟩ ?_
    have hptB2 := hpt
    have hphB2 := hph
    have hpbB2 := hpb
    have hplB2 := hpl
    have hxsB2 := hxs
    have hr13B2 := hr13
    have hIx9B2 := hIx9
    have GB2 := G
    have hCB2 := hC
    clear F ac
    intro me_ ac w18 hI
    obtain ⟨k, rfl, hO2, hk, F⟩ := hI
    replace G := GB2.trans (hO2.gr (fun _ _ h => h))
    replace hpt := (hP.t).gr G
    replace hph := (hP.h).gr G
    replace hpb := (hP.b).gr G
    replace hpl := (hP.l).gr G
    replace hxs := (hX).gr G
    replace hr13 := hr13B2.gr (hO2.gr (fun _ _ h => h))
    replace hIx9 := hIx9B2.gr (hO2.gr (fun _ _ h => h))
    replace hC := (RCells.cons (hO2.cell (hCB2.at 0 rfl) (fun h => h)) (RCells.cons (hO2.cell (hCB2.at 1 rfl) (fun h => h)) (RCells.cons (hO2.cell (hCB2.at 2 rfl) (fun h => h)) (RCells.cons (hO2.cell (hCB2.at 3 rfl) (fun h => h)) (RCells.cons (hO2.cell (hCB2.at 4 rfl) (fun h => h)) (RCells.nil _))))))
    replace hO1 := hO1.step2 hO2 (fun r e => False.elim e)
    refine Y.seq ?_
    refine Y.sg F [(1, .slice a xs.length c), (2, Vi h9), (10, .slice (some pd9) E13.length rc13), (11, .slice bb bn b9), (12, Vi mv), (13, Vi i), (14, .bool (usedN x9.xs h9 k)), (15, Vi k), (42, .bool (decide ((k : Int) < x9.xs.length)))] (by
     refine Y.pv F (X.move rfl (F.ev 15 (Vi k))) fun ac F=>?_
     refine Y.pv F (X.move rfl (F.ev 10 (.slice (some pd9) E13.length rc13))) fun ac F=>?_
     refine Y.pv F (X.move rfl (F.ev 13 (Vi i))) fun ac F=>?_
     refine Y.pval F (X.w0 rfl) rfl (X.index rfl (F.ev 37 (.slice (some pd9) E13.length rc13)) (F.ev 38 (Vi i)) (X.idx (k := i) Try.underlying38 (Try.siz34 _) (by omega) (by omega) (by rw [Nat.mul_one]))) fun ac F=>?_
     refine Y.pv F (X.load rfl (F.ev 39 (.pointer (some (pd9.add i)))) (X.ld1 (Try.agg34 _) (hC.at 4 rfl))) fun ac F=>?_
     refine Y.pv F (X.len1 Try.underlying34 rfl (F.ev 40 (.slice ax x9.xs.length x9.c))) fun ac F=>?_
     refine Y.pv F (X.binop rfl (F.ev 36 (Vi k)) (F.ev 41 (Vi x9.xs.length)) (X.lssI Try.underlying3 rfl)) fun ac F=>?_
     exact Y.fin F) ?_;clear F ac;intro ac F
    cases h19 : decide ((k : Int) < x9.xs.length) with
    | false =>
     try rw [h19] at F
     have h19p : ¬ ((k : Int) < x9.xs.length) := of_decide_eq_false h19
     obtain rfl : k = x9.xs.length := by omega
     refine Y.condF (F.ev 42 (.bool false)) ?_
     refine Y.exit ?_
     refine X.thenX (X.thenX (X.blockX (X.thenN ?_)))
     refine Y.sl ?_
     refine Y.pv3 F (X.move rfl (F.ev 14 (.bool (usedN x9.xs h9 x9.xs.length)))) (fun _ F=>X.notB rfl (F.ev 57 (.bool (usedN x9.xs h9 x9.xs.length))) rfl) (fun _ F=>X.move rfl (F.ev 58 (.bool (!(usedN x9.xs h9 x9.xs.length))))) ?_;clear F ac;intro ac F
     cases h20 : usedN x9.xs h9 x9.xs.length with
     | false =>
      try rw [h20] at F
      refine Y.pg F 2 59 true (X.move rfl (F.ev 12 (Vi mv))) ?_;clear F ac;intro ac F
      refine Y.pg F 2 59 true (X.binop rfl (F.ev 60 (Vi mv)) (X.kc (Vi 0) rfl) (X.lssI Try.underlying3 rfl)) ?_;clear F ac;intro ac F
      refine Y.pg F 2 59 true (X.move rfl (F.ev 61 (.bool (decide ((mv : Int) < 0))))) ?_;clear F ac;intro ac F
      cases h21 : decide ((mv : Int) < 0) with
      | false =>
       try rw [h21] at F
       have h21p : ¬ ((mv : Int) < 0) := of_decide_eq_false h21
       refine Y.pg F 5 62 false (X.move rfl (F.ev 10 (.slice (some pd9) E13.length rc13))) ?_;clear F ac;intro ac F
       refine Y.pg F 5 62 false (X.move rfl (F.ev 13 (Vi i))) ?_;clear F ac;intro ac F
       refine Y.pg F 5 62 false (X.index rfl (F.ev 63 (.slice (some pd9) E13.length rc13)) (F.ev 64 (Vi i)) (X.idx (k := i) Try.underlying38 (Try.siz34 _) (by omega) (by omega) (by rw [Nat.mul_one]))) ?_;clear F ac;intro ac F
       refine Y.pg F 5 62 false (X.load rfl (F.ev 65 (.pointer (some (pd9.add i)))) (X.ld1 (Try.agg34 _) (hC.at 4 rfl))) ?_;clear F ac;intro ac F
       refine Y.pg F 5 62 false (X.move rfl (F.ev 1 (.slice a xs.length c))) ?_;clear F ac;intro ac F
       refine Y.pcall F (X.w1 rfl (F.yl (j := 5) (d := 62) (b := false) rfl (by kernel_rfl))) rfl (X.enter (F := 81) rfl (X.kc (.func (.func 81) #[] #[]) rfl) (X.a2 (F.ev 66 (.slice ax x9.xs.length x9.c)) (F.ev 67 (.slice a xs.length c))) (enters_of Try.func81 (by kernel_rfl) rfl _)) (differ_any ax a x9.c c x9.xs xs w18 hIx9 hxs (by omega)) ?_
       clear F ac
       rintro e w22 ⟨rfl, g⟩
       refine ⟨_, rfl, ?_⟩
       intro ac F
       replace G := G.trans g
       replace hC := hC.gr g
       replace hO1 := hO1.thenGr g
       replace hpt := hpt.gr g
       replace hph := hph.gr g
       replace hpb := hpb.gr g
       replace hpl := hpl.gr g
       replace hxs := hxs.gr g
       replace hr13 := hr13.gr g
       replace hIx9 := hIx9.gr g
       clear g
       refine Y.pg F 5 62 false (X.move rfl (F.ev 12 (Vi mv))) ?_;clear F ac;intro ac F
       refine Y.pg F 5 62 false (X.binop rfl (F.ev 68 (Vi (difV x9.xs xs))) (F.ev 69 (Vi mv)) (X.lssI Try.underlying3 rfl)) ?_;clear F ac;intro ac F
       refine Y.pg F 2 59 true (X.pickF rfl (F.ev 62 (.bool false)) (F.ev 70 (.bool (decide ((difV x9.xs xs : Int) < mv))))) ?_;clear F ac;intro ac F
       refine Y.pv F (X.pickT rfl (F.ev 59 (.bool true)) (F.ev 71 (.bool (decide ((difV x9.xs xs : Int) < mv))))) ?_;clear F ac;intro ac F
       refine Y.nt F [(1, .slice a xs.length c), (2, Vi h9), (10, .slice (some pd9) E13.length rc13), (11, .slice bb bn b9), (12, Vi mv), (13, Vi i), (72, .bool (decide ((difV x9.xs xs : Int) < mv)))] ?_;clear F ac;intro ac F
       cases h23 : decide ((difV x9.xs xs : Int) < mv) with
       | false =>
        try rw [h23] at F
        have h23p : ¬ ((difV x9.xs xs : Int) < mv) := of_decide_eq_false h23
        refine Y.condF (F.ev 72 (.bool false)) ?_
        refine Y.skip ?_
        refine X.blockN (X.thenN ?_)
        refine Y.lg F [(1, .slice a xs.length c), (2, Vi h9), (10, .slice (some pd9) E13.length rc13), (11, .slice bb bn b9), (12, Vi mv), (13, Vi ((i : Int) + 1))] (by
         refine Y.pv F (X.move rfl (F.ev 13 (Vi i))) fun ac F=>?_
         refine Y.pv F (X.binop rfl (F.ev 34 (Vi i)) (X.kc (Vi 1) rfl) (X.addI Try.underlying3 rfl (by omega) (by omega))) fun ac F=>?_
         refine Y.pv F (X.assign rfl (F.ev 35 (Vi ((i : Int) + 1)))) fun ac F=>?_
         exact Y.fin F) ?_;clear F ac;intro ac F
        refine ⟨_, ?_, i + 1, bb, bn, b9, mv, rfl, hO1, by omega, rp_keep hrp hx9 h20 (by omega) (by omega), F.sub _⟩
        omega
       | true =>
        try rw [h23] at F
        have h23p : ((difV x9.xs xs : Int) < mv) := of_decide_eq_true h23
        refine Y.condT (F.ev 72 (.bool true)) ?_
        refine Y.sg F [(1, .slice a xs.length c), (2, Vi h9), (10, .slice (some pd9) E13.length rc13), (11, .slice ax x9.xs.length x9.c), (13, Vi i)] (by
         refine Y.pv F (X.move rfl (F.ev 10 (.slice (some pd9) E13.length rc13))) fun ac F=>?_
         refine Y.pv F (X.move rfl (F.ev 13 (Vi i))) fun ac F=>?_
         refine Y.pval F (X.w0 rfl) rfl (X.index rfl (F.ev 73 (.slice (some pd9) E13.length rc13)) (F.ev 74 (Vi i)) (X.idx (k := i) Try.underlying38 (Try.siz34 _) (by omega) (by omega) (by rw [Nat.mul_one]))) fun ac F=>?_
         refine Y.pv F (X.load rfl (F.ev 75 (.pointer (some (pd9.add i)))) (X.ld1 (Try.agg34 _) (hC.at 4 rfl))) fun ac F=>?_
         refine Y.pv F (X.assign rfl (F.ev 76 (.slice ax x9.xs.length x9.c))) fun ac F=>?_
         exact Y.fin F) ?_;clear F ac;intro ac F
        refine Y.lit (by kernel_rfl) ?_
        refine Y.pv2 F (X.move rfl (F.ev 10 (.slice (some pd9) E13.length rc13))) (fun _ F=>X.move rfl (F.ev 13 (Vi i))) ?_;clear F ac;intro ac F
        refine Y.pval F (X.w0 rfl) rfl (X.index rfl (F.ev 77 (.slice (some pd9) E13.length rc13)) (F.ev 78 (Vi i)) (X.idx (k := i) Try.underlying38 (Try.siz34 _) (by omega) (by omega) (by rw [Nat.mul_one]))) ?_;clear F ac;intro ac F
        refine Y.pv2 F (X.load rfl (F.ev 79 (.pointer (some (pd9.add i)))) (X.ld1 (Try.agg34 _) (hC.at 4 rfl))) (fun _ F=>X.move rfl (F.ev 1 (.slice a xs.length c))) ?_;clear F ac;intro ac F
        refine Y.pc F 81 (X.a2 (F.ev 80 (.slice ax x9.xs.length x9.c)) (F.ev 81 (.slice a xs.length c))) Try.func81 (differ_any ax a x9.c c x9.xs xs w22 hIx9 hxs (by omega)) ?_
        clear F ac
        rintro e w24 ⟨rfl, g⟩
        refine ⟨_, rfl, ?_⟩
        intro ac F
        replace G := G.trans g
        replace hC := hC.gr g
        replace hO1 := hO1.thenGr g
        replace hpt := hpt.gr g
        replace hph := hph.gr g
        replace hpb := hpb.gr g
        replace hpl := hpl.gr g
        replace hxs := hxs.gr g
        replace hr13 := hr13.gr g
        replace hIx9 := hIx9.gr g
        clear g
        refine Y.pv F (X.assign rfl (F.ev 82 (Vi (difV x9.xs xs)))) ?_;clear F ac;intro ac F
        refine Y.nil ?_
        replace F : Fr ac 87 [(1, .slice a xs.length c), (2, Vi h9), (10, .slice (some pd9) E13.length rc13), (11, .slice ax x9.xs.length x9.c), (12, Vi (difV x9.xs xs)), (13, Vi i)] := F.sub _
        refine X.blockN (X.thenN ?_)
        refine Y.lg F [(1, .slice a xs.length c), (2, Vi h9), (10, .slice (some pd9) E13.length rc13), (11, .slice ax x9.xs.length x9.c), (12, Vi (difV x9.xs xs)), (13, Vi ((i : Int) + 1))] (by
         refine Y.pv F (X.move rfl (F.ev 13 (Vi i))) fun ac F=>?_
         refine Y.pv F (X.binop rfl (F.ev 34 (Vi i)) (X.kc (Vi 1) rfl) (X.addI Try.underlying3 rfl (by omega) (by omega))) fun ac F=>?_
         refine Y.pv F (X.assign rfl (F.ev 35 (Vi ((i : Int) + 1)))) fun ac F=>?_
         exact Y.fin F) ?_;clear F ac;intro ac F
        refine ⟨_, ?_, i + 1, ax, x9.xs.length, x9.c, difV x9.xs xs, rfl, hO1, by omega, by rw [← hax]; exact rp_new hrp hx9 h20 (.inr (by omega)), F.sub _⟩
        omega
      | true =>
       try rw [h21] at F
       have h21p : ((mv : Int) < 0) := of_decide_eq_true h21
       refine Y.ps F 5 62 true ?_;clear F ac;intro ac F
       refine Y.ps F 5 62 true ?_;clear F ac;intro ac F
       refine Y.ps F 5 62 true ?_;clear F ac;intro ac F
       refine Y.ps F 5 62 true ?_;clear F ac;intro ac F
       refine Y.ps F 5 62 true ?_;clear F ac;intro ac F
       refine Y.ps F 5 62 true ?_;clear F ac;intro ac F
       refine Y.ps F 5 62 true ?_;clear F ac;intro ac F
       refine Y.ps F 5 62 true ?_;clear F ac;intro ac F
       refine Y.pg F 2 59 true (X.pickT rfl (F.ev 62 (.bool true)) (X.kc (.bool true) rfl)) ?_;clear F ac;intro ac F
       refine Y.pv F (X.pickT rfl (F.ev 59 (.bool true)) (F.ev 71 (.bool true))) ?_;clear F ac;intro ac F
       refine Y.nt F [(1, .slice a xs.length c), (2, Vi h9), (10, .slice (some pd9) E13.length rc13), (11, .slice bb bn b9), (12, Vi mv), (13, Vi i), (72, .bool true)] ?_;clear F ac;intro ac F
       refine Y.condT (F.ev 72 (.bool true)) ?_
       refine Y.sg F [(1, .slice a xs.length c), (2, Vi h9), (10, .slice (some pd9) E13.length rc13), (11, .slice ax x9.xs.length x9.c), (13, Vi i)] (by
        refine Y.pv F (X.move rfl (F.ev 10 (.slice (some pd9) E13.length rc13))) fun ac F=>?_
        refine Y.pv F (X.move rfl (F.ev 13 (Vi i))) fun ac F=>?_
        refine Y.pval F (X.w0 rfl) rfl (X.index rfl (F.ev 73 (.slice (some pd9) E13.length rc13)) (F.ev 74 (Vi i)) (X.idx (k := i) Try.underlying38 (Try.siz34 _) (by omega) (by omega) (by rw [Nat.mul_one]))) fun ac F=>?_
        refine Y.pv F (X.load rfl (F.ev 75 (.pointer (some (pd9.add i)))) (X.ld1 (Try.agg34 _) (hC.at 4 rfl))) fun ac F=>?_
        refine Y.pv F (X.assign rfl (F.ev 76 (.slice ax x9.xs.length x9.c))) fun ac F=>?_
        exact Y.fin F) ?_;clear F ac;intro ac F
       refine Y.lit (by kernel_rfl) ?_
       refine Y.pv2 F (X.move rfl (F.ev 10 (.slice (some pd9) E13.length rc13))) (fun _ F=>X.move rfl (F.ev 13 (Vi i))) ?_;clear F ac;intro ac F
       refine Y.pval F (X.w0 rfl) rfl (X.index rfl (F.ev 77 (.slice (some pd9) E13.length rc13)) (F.ev 78 (Vi i)) (X.idx (k := i) Try.underlying38 (Try.siz34 _) (by omega) (by omega) (by rw [Nat.mul_one]))) ?_;clear F ac;intro ac F
       refine Y.pv2 F (X.load rfl (F.ev 79 (.pointer (some (pd9.add i)))) (X.ld1 (Try.agg34 _) (hC.at 4 rfl))) (fun _ F=>X.move rfl (F.ev 1 (.slice a xs.length c))) ?_;clear F ac;intro ac F
       refine Y.pc F 81 (X.a2 (F.ev 80 (.slice ax x9.xs.length x9.c)) (F.ev 81 (.slice a xs.length c))) Try.func81 (differ_any ax a x9.c c x9.xs xs w18 hIx9 hxs (by omega)) ?_
       clear F ac
       rintro e w25 ⟨rfl, g⟩
       refine ⟨_, rfl, ?_⟩
       intro ac F
       replace G := G.trans g
       replace hC := hC.gr g
       replace hO1 := hO1.thenGr g
       replace hpt := hpt.gr g
       replace hph := hph.gr g
       replace hpb := hpb.gr g
       replace hpl := hpl.gr g
       replace hxs := hxs.gr g
       replace hr13 := hr13.gr g
       replace hIx9 := hIx9.gr g
       clear g
       refine Y.pv F (X.assign rfl (F.ev 82 (Vi (difV x9.xs xs)))) ?_;clear F ac;intro ac F
       refine Y.nil ?_
       replace F : Fr ac 87 [(1, .slice a xs.length c), (2, Vi h9), (10, .slice (some pd9) E13.length rc13), (11, .slice ax x9.xs.length x9.c), (12, Vi (difV x9.xs xs)), (13, Vi i)] := F.sub _
       refine X.blockN (X.thenN ?_)
       refine Y.lg F [(1, .slice a xs.length c), (2, Vi h9), (10, .slice (some pd9) E13.length rc13), (11, .slice ax x9.xs.length x9.c), (12, Vi (difV x9.xs xs)), (13, Vi ((i : Int) + 1))] (by
        refine Y.pv F (X.move rfl (F.ev 13 (Vi i))) fun ac F=>?_
        refine Y.pv F (X.binop rfl (F.ev 34 (Vi i)) (X.kc (Vi 1) rfl) (X.addI Try.underlying3 rfl (by omega) (by omega))) fun ac F=>?_
        refine Y.pv F (X.assign rfl (F.ev 35 (Vi ((i : Int) + 1)))) fun ac F=>?_
        exact Y.fin F) ?_;clear F ac;intro ac F
       refine ⟨_, ?_, i + 1, ax, x9.xs.length, x9.c, difV x9.xs xs, rfl, hO1, by omega, by rw [← hax]; exact rp_new hrp hx9 h20 (.inl (by omega)), F.sub _⟩
       omega
     | true =>
      try rw [h20] at F
      refine Y.ps F 2 59 false ?_;clear F ac;intro ac F
      refine Y.ps F 2 59 false ?_;clear F ac;intro ac F
      refine Y.ps F 2 59 false ?_;clear F ac;intro ac F
      refine Y.pn F 5 62 ?_;clear F ac;intro ac F
      refine Y.pn F 5 62 ?_;clear F ac;intro ac F
      refine Y.pn F 5 62 ?_;clear F ac;intro ac F
      refine Y.pn F 5 62 ?_;clear F ac;intro ac F
      refine Y.pn F 5 62 ?_;clear F ac;intro ac F
      refine Y.pn F 5 62 ?_;clear F ac;intro ac F
      refine Y.pn F 5 62 ?_;clear F ac;intro ac F
      refine Y.pn F 5 62 ?_;clear F ac;intro ac F
      refine Y.ps F 2 59 false ?_;clear F ac;intro ac F
      refine Y.pv F (X.pickF rfl (F.ev 59 (.bool false)) (X.kc (.bool false) rfl)) ?_;clear F ac;intro ac F
      refine Y.nt F [(1, .slice a xs.length c), (2, Vi h9), (10, .slice (some pd9) E13.length rc13), (11, .slice bb bn b9), (12, Vi mv), (13, Vi i), (72, .bool false)] ?_;clear F ac;intro ac F
      refine Y.condF (F.ev 72 (.bool false)) ?_
      refine Y.skip ?_
      refine X.blockN (X.thenN ?_)
      refine Y.lg F [(1, .slice a xs.length c), (2, Vi h9), (10, .slice (some pd9) E13.length rc13), (11, .slice bb bn b9), (12, Vi mv), (13, Vi ((i : Int) + 1))] (by
       refine Y.pv F (X.move rfl (F.ev 13 (Vi i))) fun ac F=>?_
       refine Y.pv F (X.binop rfl (F.ev 34 (Vi i)) (X.kc (Vi 1) rfl) (X.addI Try.underlying3 rfl (by omega) (by omega))) fun ac F=>?_
       refine Y.pv F (X.assign rfl (F.ev 35 (Vi ((i : Int) + 1)))) fun ac F=>?_
       exact Y.fin F) ?_;clear F ac;intro ac F
      refine ⟨_, ?_, i + 1, bb, bn, b9, mv, rfl, hO1, by omega, rp_skip hrp hx9 h20, F.sub _⟩
      omega
    | true =>
     try rw [h19] at F
     have h19p : ((k : Int) < x9.xs.length) := of_decide_eq_true h19
     refine Y.condT (F.ev 42 (.bool true)) ?_
     refine Y.skip ?_
     refine X.thenN ?_
     refine Y.seq ?_
     refine Y.block ?_
     refine Y.lit (by kernel_rfl) ?_
     refine Y.pv2 F (X.move rfl (F.ev 14 (.bool (usedN x9.xs h9 k)))) (fun _ F=>X.move rfl (F.ev 45 (.bool (usedN x9.xs h9 k)))) ?_;clear F ac;intro ac F
     cases h26 : usedN x9.xs h9 k with
     | false =>
      try rw [h26] at F
      refine Y.pg F 1 46 false (X.move rfl (F.ev 10 (.slice (some pd9) E13.length rc13))) ?_;clear F ac;intro ac F
      refine Y.pg F 1 46 false (X.move rfl (F.ev 13 (Vi i))) ?_;clear F ac;intro ac F
      refine Y.pg F 1 46 false (X.index rfl (F.ev 47 (.slice (some pd9) E13.length rc13)) (F.ev 48 (Vi i)) (X.idx (k := i) Try.underlying38 (Try.siz34 _) (by omega) (by omega) (by rw [Nat.mul_one]))) ?_;clear F ac;intro ac F
      refine Y.pg F 1 46 false (X.load rfl (F.ev 49 (.pointer (some (pd9.add i)))) (X.ld1 (Try.agg34 _) (hC.at 4 rfl))) ?_;clear F ac;intro ac F
      refine Y.pg F 1 46 false (X.move rfl (F.ev 15 (Vi k))) ?_;clear F ac;intro ac F
      obtain ⟨pd27, pe27, -, pc27⟩ := hIx9.at (j := k) (by omega)
      subst pe27
      replace hC := hC.append (show RCells w18 ([(pd27.add k, Vi (x9.xs[k]?.getD 0))]) from (RCells.cons pc27 (RCells.nil _)))
      clear pc27
      refine Y.pg F 1 46 false (X.index rfl (F.ev 50 (.slice (some pd27) x9.xs.length x9.c)) (F.ev 51 (Vi k)) (X.idx (k := k) Try.underlying34 (Try.siz3 _) (by omega) (by omega) (by rw [Nat.mul_one]))) ?_;clear F ac;intro ac F
      refine Y.pg F 1 46 false (X.load rfl (F.ev 52 (.pointer (some (pd27.add k)))) (X.ld1 (Try.agg3 _) (hC.at 5 rfl))) ?_;clear F ac;intro ac F
      refine Y.pg F 1 46 false (X.move rfl (F.ev 2 (Vi h9))) ?_;clear F ac;intro ac F
      refine Y.pg F 1 46 false (X.binop rfl (F.ev 53 (Vi (x9.xs[k]?.getD 0))) (F.ev 54 (Vi h9)) (X.eqlI Try.underlying3 rfl)) ?_;clear F ac;intro ac F
      refine Y.pv2 F (X.pickF rfl (F.ev 46 (.bool false)) (F.ev 55 (.bool ((x9.xs[k]?.getD 0 : Int) == h9)))) (fun _ F=>X.assign rfl (F.ev 56 (.bool ((x9.xs[k]?.getD 0 : Int) == h9)))) ?_;clear F ac;intro ac F
      refine Y.nil ?_
      replace F : Fr ac 87 [(1, .slice a xs.length c), (2, Vi h9), (10, .slice (some pd9) E13.length rc13), (11, .slice bb bn b9), (12, Vi mv), (13, Vi i), (14, .bool ((x9.xs[k]?.getD 0 : Int) == h9)), (15, Vi k)] := F.sub _
      refine X.blockN (X.thenN ?_)
      refine Y.lg F [(1, .slice a xs.length c), (2, Vi h9), (10, .slice (some pd9) E13.length rc13), (11, .slice bb bn b9), (12, Vi mv), (13, Vi i), (14, .bool ((x9.xs[k]?.getD 0 : Int) == h9)), (15, Vi ((k : Int) + 1))] (by
       refine Y.pv F (X.move rfl (F.ev 15 (Vi k))) fun ac F=>?_
       refine Y.pv F (X.binop rfl (F.ev 43 (Vi k)) (X.kc (Vi 1) rfl) (X.addI Try.underlying3 rfl (by omega) (by omega))) fun ac F=>?_
       refine Y.pv F (X.assign rfl (F.ev 44 (Vi ((k : Int) + 1)))) fun ac F=>?_
       exact Y.fin F) ?_;clear F ac;intro ac F
      refine ⟨_, ?_, k + 1, rfl, hO2, by omega, (by rw [usn_f h26]; exact F.sub _)⟩
      omega
     | true =>
      try rw [h26] at F
      refine Y.ps F 1 46 true ?_;clear F ac;intro ac F
      refine Y.ps F 1 46 true ?_;clear F ac;intro ac F
      refine Y.ps F 1 46 true ?_;clear F ac;intro ac F
      refine Y.ps F 1 46 true ?_;clear F ac;intro ac F
      refine Y.ps F 1 46 true ?_;clear F ac;intro ac F
      refine Y.ps F 1 46 true ?_;clear F ac;intro ac F
      refine Y.ps F 1 46 true ?_;clear F ac;intro ac F
      refine Y.ps F 1 46 true ?_;clear F ac;intro ac F
      refine Y.ps F 1 46 true ?_;clear F ac;intro ac F
      refine Y.pv2 F (X.pickT rfl (F.ev 46 (.bool true)) (X.kc (.bool true) rfl)) (fun _ F=>X.assign rfl (F.ev 56 (.bool true))) ?_;clear F ac;intro ac F
      refine Y.nil ?_
      replace F : Fr ac 87 [(1, .slice a xs.length c), (2, Vi h9), (10, .slice (some pd9) E13.length rc13), (11, .slice bb bn b9), (12, Vi mv), (13, Vi i), (14, .bool true), (15, Vi k)] := F.sub _
      refine X.blockN (X.thenN ?_)
      refine Y.lg F [(1, .slice a xs.length c), (2, Vi h9), (10, .slice (some pd9) E13.length rc13), (11, .slice bb bn b9), (12, Vi mv), (13, Vi i), (14, .bool true), (15, Vi ((k : Int) + 1))] (by
       refine Y.pv F (X.move rfl (F.ev 15 (Vi k))) fun ac F=>?_
       refine Y.pv F (X.binop rfl (F.ev 43 (Vi k)) (X.kc (Vi 1) rfl) (X.addI Try.underlying3 rfl (by omega) (by omega))) fun ac F=>?_
       refine Y.pv F (X.assign rfl (F.ev 44 (Vi ((k : Int) + 1)))) fun ac F=>?_
       exact Y.fin F) ?_;clear F ac;intro ac F
      refine ⟨_, ?_, k + 1, rfl, hO2, by omega, (by rw [usn_t h26]; exact F.sub _)⟩
      omega
 | true =>
  try rw [h8] at F
  have h8p : ¬ (whoE p xs : Int) = 0 := by simpa using h8
  refine Y.condT (F.ev 20 (.bool true)) ?_
  refine Y.sg F [(6, .slice none 0 0), (7, Vi 0), (8, Vi (whoE p xs))] (Y.pv F (X.move rfl (F.ev 9 (Vi (whoE p xs)))) fun ac F=>Y.pv F (X.assign rfl (X.kc (.slice none 0 0) rfl)) fun ac F=>Y.pv F (X.assign rfl (X.kc (Vi 0) rfl)) fun ac F=>Y.pv F (X.assign rfl (F.ev 21 (Vi (whoE p xs)))) fun ac F=>Y.fin F) ?_;clear F ac;intro ac F
  refine Y.ret ?_
  refine X.thenR ?_
  have hb := rep_0 (p := p) (plan := xs) (host := h9) (by omega)
  exact Y.ret0 (v := .tuple #[.slice none 0 0, Vi 0, Vi (whoE p xs)]) F (Y.rs3 F rfl (by kernel_rfl) (by kernel_rfl) (by kernel_rfl)) ⟨none, 0, by rw [hb]; rfl, by rw [hb]; exact Ints.nilZ _, G⟩
end
section
set_option linter.unusedVariables false
open Go.RowKit
theorem onS_mono {g : Nat → Int} {xs : List Int} {x h : Int} (hg : 0 ≤ g xs.length) : onS g xs h xs.length ≤ onS g (xs ++ [x]) h (xs ++ [x]).length := by
  rw [onS_end]; split <;> omega
/-- what is hopeless stays so -/
theorem hope_mono {p : Pb} (hp : PbOk p) {xs : List Int} {x : Int} (hl : xs.length < p.nt) (h : hopeB p (tim p) xs = true) : hopeB p (tim p) (xs ++ [x]) = true := by
  unfold hopeB at h ⊢
  rw [Bool.not_eq_true'] at h ⊢
  rw [Bool.and_eq_false_iff, Bool.and_eq_false_iff] at h ⊢
  have hm := hp.tm xs.length hl
  have ht := hp.tt xs.length hl
  rcases h with (h | h) | h
  · refine .inl (.inl ?_)
    cases e : allN (fitB p (tim p) (xs ++ [x])) p.nh with
    | false => rfl
    | true =>
      rw [← h]
      refine (allN_iff.2 fun i hi => ?_).symm
      have := allN_iff.1 e i hi
      simp only [fitB, Bool.and_eq_true, decide_eq_true_eq] at this ⊢
      have m1 := onS_mono (g := fun i => p.tv i 1) (xs := xs) (x := x) (h := (i : Int)) hm.1
      have m2 := onS_mono (g := tim p) (xs := xs) (x := x) (h := (i : Int)) ht.1
      omega
  · refine .inl (.inr ?_)
    cases e : allN (lvlB p (xs ++ [x])) (xs ++ [x]).length with
    | false => rfl
    | true =>
      rw [← h]
      refine (allN_iff.2 fun i hi => ?_).symm
      have := allN_iff.1 e i (by simp; omega)
      unfold lvlB at this ⊢
      rwa [xg_app hi] at this
  · refine .inr ?_
    cases e : allN (keptB p (xs ++ [x])) p.nb with
    | false => rfl
    | true =>
      rw [← h]
      refine (allN_iff.2 fun j hj => ?_).symm
      have := allN_iff.1 e j hj
      have ha := hp.ba j hj
      have hb := hp.bt j hj
      have hk := hp.bk j hj
      unfold keptB at this ⊢
      have hl2 : ((xs ++ [x]).length : Int) = xs.length + 1 := by simp
      by_cases c1 : (xs.length : Int) ≤ p.bv j 1
      · rw [if_pos c1]
      · have c1' : ¬ ((xs ++ [x]).length : Int) ≤ p.bv j 1 := by omega
        rw [if_neg c1]
        rw [if_neg c1', xg_app (show (p.bv j 1).toNat < xs.length by omega)] at this
        by_cases c4 : p.bv j 0 = 4
        · rw [if_pos c4] at this ⊢; exact this
        · rw [if_neg c4] at this ⊢
          by_cases c5 : p.bv j 0 = 5
          · rw [if_pos c5] at this ⊢; exact this
          · rw [if_neg c5] at this ⊢
            have hb := hb (by omega)
            by_cases c2 : (xs.length : Int) ≤ p.bv j 2
            · rw [if_pos c2]
            · have c2' : ¬ ((xs ++ [x]).length : Int) ≤ p.bv j 2 := by omega
              rw [if_neg c2]
              rw [if_neg c2', xg_app (show (p.bv j 2).toNat < xs.length by omega)] at this
              exact this
theorem allF_in {p : Pb} (hp : PbOk p) : ∀ (m : Nat) (xs ys : List Int), xs.length + m = p.nt → ys.length = m → HosOk p (xs ++ ys) → hopeB p (tim p) (xs ++ ys) = false → (xs ++ ys) ∈ allF p.nh (hopeB p (tim p)) m xs := by
  intro m
  induction m with
  | zero =>
    intro xs ys h1 h2 hx hh
    have : ys = [] := List.eq_nil_of_length_eq_zero h2
    subst this
    rw [List.append_nil] at hh ⊢
    unfold allF; rw [if_neg (by rw [hh]; decide)]; simp
  | succ m ih =>
    intro xs ys h1 h2 hx hh
    cases ys with
    | nil => simp at h2
    | cons y ys =>
      have e : xs ++ y :: ys = (xs ++ [y]) ++ ys := by simp
      have hxs : hopeB p (tim p) xs = false := by
        have hpre : ∀ (ys xs : List Int), xs.length + ys.length ≤ p.nt → hopeB p (tim p) xs = true → hopeB p (tim p) (xs ++ ys) = true := by
          intro ys
          induction ys with
          | nil => intro xs _ h; simpa using h
          | cons z ys ih2 =>
            intro xs hl h
            rw [show xs ++ z :: ys = (xs ++ [z]) ++ ys by simp]
            exact ih2 (xs ++ [z]) (by simp at hl ⊢; omega) (hope_mono hp (by simp at hl; omega) h)
        cases q : hopeB p (tim p) xs with
        | false => rfl
        | true => rw [hpre (y :: ys) xs (by omega) q] at hh; cases hh
      have hy := hx xs.length (by simp)
      have hxy : xg (xs ++ y :: ys) xs.length = y := by unfold xg; rw [List.getElem?_append_right (Nat.le_refl _)]; simp
      rw [hxy] at hy
      unfold allF
      rw [if_neg (by rw [hxs]; decide)]
      refine flatN_mem.2 ⟨y.toNat, by omega, ?_⟩
      rw [e] at hx hh ⊢
      have ey : ((y.toNat : Nat) : Int) = y := by omega
      rw [ey]
      exact ih (xs ++ [y]) ys (by simp; omega) (by simpa using h2) hx hh
/-- the list has all that are allowed -/
theorem allP_iff {p : Pb} (hp : PbOk p) {x : List Int} : x ∈ allP p ↔ HosOk p x ∧ x.length = p.nt ∧ hopeB p (tim p) x = false :=
  ⟨mem_allP, fun ⟨h1, h2, h3⟩ => by
    have := allF_in hp p.nt [] x (by simp) h2 (by simpa using h1) (by simpa using h3)
    rw [List.nil_append] at this
    exact this⟩
theorem srtK_mem {key : List Int → Int × Int} {l : List (List Int)} {x : List Int} (h : x ∈ l) : (key x, x) ∈ srtK key l := by
  have hm : ∀ (l : List (List Int)) (s : List ((Int × Int) × List Int)), (∀ y ∈ s, y ∈ l.foldl (fun s x => insR s (key x, x)) s) ∧ (x ∈ l → (key x, x) ∈ l.foldl (fun s x => insR s (key x, x)) s) := by
    intro l
    induction l with
    | nil => intro s; exact ⟨fun y hy => hy, fun h => by cases h⟩
    | cons a l ih =>
      intro s
      have hin : ∀ y, y ∈ s ∨ y = (key a, a) → y ∈ insR s (key a, a) := fun y hy => by
        unfold insR insAt
        rw [List.mem_append, List.mem_cons]
        rcases hy with hy | hy
        · rw [← List.take_append_drop (posR s (key a, a).1 s.length) s, List.mem_append] at hy
          rcases hy with hy | hy
          · exact .inl hy
          · exact .inr (.inr hy)
        · exact .inr (.inl hy)
      obtain ⟨h1, h2⟩ := ih (insR s (key a, a))
      refine ⟨fun y hy => h1 y (hin y (.inl hy)), fun hx => ?_⟩
      rcases List.mem_cons.1 hx with rfl | hx
      · exact h1 _ (hin _ (.inr rfl))
      · exact h2 hx
  exact (hm l []).2 h
theorem head_min {α : Type} {l : List ((Int × Int) × α)} (hs : Sorted l) {y z : (Int × Int) × α} (hy : l[0]? = some y) (hz : z ∈ l) : ltK z.1 y.1 = false := by
  obtain ⟨i, hi⟩ := List.getElem?_of_mem hz
  cases i with
  | zero => rw [hi] at hy; injection hy with hy; subst hy; rw [ltK_false]; omega
  | succ i => exact hs.get (Nat.succ_pos i) hy hi
theorem dif_zero {xs ys : List Int} (hl : xs.length = ys.length) (h : difV xs ys = 0) : xs = ys := by
  have hk : ∀ k, difN xs ys k = 0 → ∀ i, i < k → xg xs i = xg ys i := by
    intro k
    induction k with
    | zero => intro _ i hi; omega
    | succ k ih =>
      intro h i hi
      have hb := difN_bd (xs := xs) (ys := ys) (k := k)
      simp only [difN] at h
      by_cases e : xg xs k = xg ys k
      · rw [if_pos e] at h
        by_cases q : i = k
        · subst q; exact e
        · exact ih (by omega) i (by omega)
      · rw [if_neg e] at h; omega
  refine List.ext_getElem hl fun i h1 h2 => ?_
  have := hk xs.length h i h1
  simpa [xg, h1, h2] using this
theorem dif_self (xs : List Int) : difV xs xs = 0 := by
  have : ∀ k, difN xs xs k = 0 := by
    intro k
    induction k with
    | zero => rfl
    | succ k ih => simp only [difN, ih]; simp
  exact this _
/-- an allowed plan that does not use the host stays -/
theorem rep_stay {p : Pb} {plan : List Int} {host : Int} (h : whoE p plan = 0) (k : isH p host = true) (ha : allowV p plan = true) (hu : usesB plan host = false) : repR p plan host = (plan, 0, 0) := by
  obtain ⟨hb, hl⟩ := who_ok h
  obtain ⟨-, hp, -, hx⟩ := beg_ok hb
  rw [allow_1 h, Bool.not_eq_true'] at ha
  have hin : plan ∈ (allP p).filter fun x => !usesB x host := List.mem_filter.2 ⟨(allP_iff hp).2 ⟨hx, hl, ha⟩, by simp [hu]⟩
  have hm := srtK_mem (key := fun x => (difV x plan, bndV p x)) hin
  obtain ⟨y, hy⟩ : ∃ y, repO p plan host = some y := by
    unfold repO
    refine ⟨_, List.getElem?_eq_getElem (List.length_pos_of_mem hm)⟩
  rw [rep_3 h k hy]
  have hmin := head_min (srtK_sorted _ _) hy hm
  have hky := srtK_key _ _ y (List.mem_of_getElem? hy)
  rw [hky, ltK_false] at hmin
  have h0 := difV_bd (xs := y.2) (ys := plan)
  rw [dif_self] at hmin
  have hd : difV y.2 plan = 0 := by simp only at hmin; omega
  have hyl : y.2.length = p.nt := by
    have hyl : y.2 ∈ (allP p).filter fun x => !usesB x host := by
      have h2 : ∀ (l : List (List Int)) (s : List ((Int × Int) × List Int)), ∀ y ∈ l.foldl (fun s x => insR s ((difV x plan, bndV p x), x)) s, y ∈ s ∨ y.2 ∈ l := by
        intro l
        induction l with
        | nil => intro s y hy; exact .inl hy
        | cons a l ih =>
          intro s y hy
          rcases ih _ y hy with h | h
          · unfold insR insAt at h
            rw [List.mem_append, List.mem_cons] at h
            rcases h with h | h | h
            · exact .inl (List.mem_of_mem_take h)
            · subst h; exact .inr List.mem_cons_self
            · exact .inl (List.mem_of_mem_drop h)
          · exact .inr (List.mem_cons_of_mem _ h)
      rcases h2 _ [] y (List.mem_of_getElem? hy) with h | h
      · simp at h
      · exact h
    exact (mem_allP (List.mem_filter.1 hyl).1).2.1
  rw [dif_zero (by rw [hyl, hl]) hd, hky]
  simp only [hd]
end
section
open Go.RowKit

theorem rep_n {p : Pb} {plan : List Int} {host : Int} {L : RkL} (hL : strip L = (srtK (fun xs => ((mvR plan host xs).1, bndV p xs)) ((allP p).filter fun xs => (mvR plan host xs).2)).take 1) (h : L.length = 0) : repO p plan host = none := by
  have h0 : L = [] := List.eq_nil_of_length_eq_zero h
  subst h0
  unfold repO
  have h1 := congrArg (fun l => l[0]?) hL
  simp only [strip, List.map_nil, List.getElem?_nil] at h1
  rw [List.getElem?_take_of_lt (by decide)] at h1
  exact h1.symm
theorem rep_s {p : Pb} {plan : List Int} {host : Int} {L : RkL} {y : (Int × Int) × BegE} (hL : strip L = (srtK (fun xs => ((mvR plan host xs).1, bndV p xs)) ((allP p).filter fun xs => (mvR plan host xs).2)).take 1) (h : L[0]? = some y) : repO p plan host = some (y.1, y.2.xs) := by
  unfold repO
  have h1 := congrArg (fun l => l[0]?) hL
  simp only [strip_get, h, Option.map_some] at h1
  rw [List.getElem?_take_of_lt (by decide)] at h1
  exact h1.symm
set_option maxRecDepth 100000 in
set_option maxHeartbeats 2000000 in
theorem repair_any (p : Pb) (ta ha ba la : Option Addr) (tc hc bc lc : Nat) (a : Option Addr) (c : Nat) (xs : List Int) (h9 : Int) (w : World) (hP : PbAt w p ta ha ba la tc hc bc lc) (hX : Ints w a xs.length xs) :
  Calls Try.prog 41 #[.agg #[.slice ta p.nt tc, .slice ha p.nh hc, .slice ba p.nb bc, .slice la p.nl lc], .slice a xs.length c, Vi h9] w fun e w' => ∃ a c, e = .returned (.tuple #[.slice a (repR p xs h9).1.length c, Vi (repR p xs h9).2.1, Vi (repR p xs h9).2.2]) ∧ Ints w' a (repR p xs h9).1.length (repR p xs h9).1 ∧ ((repR p xs h9).1.length = 0 → a = none ∧ c = 0) ∧ Gr w w' := by
 have G := Gr.refl w
 have hpt := hP.t
 have hph := hP.h
 have hpb := hP.b
 have hpl := hP.l
 have hplen := hP.len
 obtain ⟨hn1, hn2, hn3, hn4⟩ := hplen
 have hcp1 := hpt.cap
 have hcp2 := hph.cap
 have hcp3 := hpb.cap
 have hcp4 := hpl.cap
 have hxs := hX
 have hlt := hX.lt
 refine Y.calls 46 Try.func41 rfl rfl ?_
 intro ac F0
 have F : Fr ac 46 [(0, .agg #[.slice ta p.nt tc, .slice ha p.nh hc, .slice ba p.nb bc, .slice la p.nl lc]), (1, .slice a xs.length c), (2, Vi h9)] := F0.sub _
 clear F0
 refine Y.sl ?_
 have hgs3 : w.heap.size ≤ w.heap.size := G.size
 refine Y.pv F (X.box rfl (F.ev 0 (.agg #[.slice ta p.nt tc, .slice ha p.nh hc, .slice ba p.nb bc, .slice la p.nl lc])) X.bx) ?_;clear F ac;intro ac F
 have hgs5 : w.heap.size ≤ w.heap.size := G.size
 obtain ⟨w6, hw_, g, hb, hbl, hC2⟩ := Y.bxd (RCells.nil w) #[.slice ta p.nt tc, .slice ha p.nh hc, .slice ba p.nb bc, .slice la p.nl lc] 27;rw [hw_];clear hw_
 replace G := G.trans g
 have hC := hC2
 clear hC2
 replace hpt := hpt.gr g
 replace hph := hph.gr g
 replace hpb := hpb.gr g
 replace hpl := hpl.gr g
 replace hxs := hxs.gr g
 have hsz4 := hbl
 clear g hb hbl
 refine Y.pv F (X.box rfl (F.ev 1 (.slice a xs.length c)) (Y.bx1 rfl)) ?_;clear F ac;intro ac F
 have hgs7 : w.heap.size ≤ w6.heap.size := G.size
 obtain ⟨w8, hw_, g, hb, hbl, hC2⟩ := Y.bxd hC #[.slice a xs.length c] 34;rw [hw_];clear hw_
 replace G := G.trans g
 replace hC := hC2
 clear hC2
 replace hpt := hpt.gr g
 replace hph := hph.gr g
 replace hpb := hpb.gr g
 replace hpl := hpl.gr g
 replace hxs := hxs.gr g
 clear g hb hbl
 refine Y.pv F (X.box rfl (F.ev 2 (Vi h9)) (Y.bx1 rfl)) ?_;clear F ac;intro ac F
 have hgs9 : w.heap.size ≤ w8.heap.size := G.size
 obtain ⟨w10, hw_, g, hb, hbl, hC2⟩ := Y.bxd hC #[Vi h9] 3;rw [hw_];clear hw_
 replace G := G.trans g
 replace hC := hC2
 clear hC2
 replace hpt := hpt.gr g
 replace hph := hph.gr g
 replace hpb := hpb.gr g
 replace hpl := hpl.gr g
 replace hxs := hxs.gr g
 clear g hb hbl
 refine Y.pv3 F (X.assign rfl (X.kc (.slice none 0 0) rfl)) (fun _ F=>X.assign rfl (X.kc (Vi 0) rfl)) (fun _ F=>X.assign rfl (X.kc (Vi 0) rfl)) ?_;clear F ac;intro ac F
 refine Y.nt F [(3, Vp w.heap.size), (4, Vp w6.heap.size), (5, Vp w8.heap.size)] ?_;clear F ac;intro ac F
 refine Y.seq ?_
 refine Y.sl ?_
 refine Y.pv2 F (X.load rfl (F.ev 3 (Vp w.heap.size)) (X.ldN (Try.agg27 _) (Try.siz27 _) (Y.atz (⟨w.heap.size, 0, none⟩) (Y.AtFrom.cons (hC.at 0 rfl) (Y.AtFrom.cons (hC.at 1 rfl) (Y.AtFrom.cons (hC.at 2 rfl) (Y.AtFrom.cons (hC.at 3 rfl) (Y.AtFrom.nil _ _ _)))))))) (fun _ F=>X.load rfl (F.ev 4 (Vp w6.heap.size)) (X.ld1 (Try.agg34 _) (hC.at 4 rfl))) ?_;clear F ac;intro ac F
 refine Y.pc F 71 (X.a3 (F.ev 11 (.agg #[.slice ta p.nt tc, .slice ha p.nh hc, .slice ba p.nb bc, .slice la p.nl lc])) (F.ev 12 (.slice a xs.length c)) (X.kc (.bool true) rfl)) Try.func71 (begun_any p ta ha ba la tc hc bc lc a c xs true w10 (hP.gr G) (hX.gr G)) ?_
 clear F ac
 rintro e w11 ⟨rfl, g⟩
 refine ⟨_, rfl, ?_⟩
 intro ac F
 replace G := G.trans g
 replace hC := hC.gr g
 replace hpt := hpt.gr g
 replace hph := hph.gr g
 replace hpb := hpb.gr g
 replace hpl := hpl.gr g
 replace hxs := hxs.gr g
 clear g
 refine Y.pv F (X.assign rfl (F.ev 13 (Vi (whoE p xs)))) ?_;clear F ac;intro ac F
 refine Y.nt F [(3, Vp w.heap.size), (4, Vp w6.heap.size), (5, Vp w8.heap.size), (9, Vi (whoE p xs))] ?_;clear F ac;intro ac F
 refine Y.sg F [(3, Vp w.heap.size), (4, Vp w6.heap.size), (5, Vp w8.heap.size), (9, Vi (whoE p xs)), (15, .bool ((whoE p xs : Int) != 0))] (Y.pv F (X.move rfl (F.ev 9 (Vi (whoE p xs)))) fun ac F=>Y.pv F (X.binop rfl (F.ev 14 (Vi (whoE p xs))) (X.kc (Vi 0) rfl) (X.neqI Try.underlying31 rfl)) fun ac F=>Y.fin F) ?_;clear F ac;intro ac F
 cases h12 : ((whoE p xs : Int) != 0) with
 | false =>
  try rw [h12] at F
  have h12p : (whoE p xs : Int) = 0 := by simpa using h12
  have hwh : whoE p xs = 0 := by omega
  have hbg := (who_ok hwh).1
  have hxl := (who_ok hwh).2
  obtain ⟨hck, hp, hlen, hx⟩ := beg_ok hbg
  refine Y.condF (F.ev 15 (.bool false)) ?_
  refine Y.skip ?_
  refine X.thenN ?_
  refine Y.seq ?_
  refine Y.sl ?_
  refine Y.pv4 F (X.load rfl (F.ev 5 (Vp w8.heap.size)) (X.ld1 (Try.agg3 _) (hC.at 5 rfl))) (fun _ F=>X.field rfl (F.ev 3 (Vp w.heap.size)) (X.fld Try.underlying27 rfl (Try.siz23 _) rfl rfl)) (fun _ F=>X.load rfl (F.ev 18 (.pointer (some ⟨w.heap.size, 1, none⟩))) (X.ld1 (Try.agg23 _) (hC.at 1 rfl))) (fun _ F=>X.len1 Try.underlying23 rfl (F.ev 19 (.slice ha p.nh hc))) ?_;clear F ac;intro ac F
  refine Y.pv F (X.binop rfl (F.ev 20 (Vi p.nh)) (X.kc (Vi 1) rfl) (X.subI Try.underlying3 rfl (by omega) (by omega))) ?_;clear F ac;intro ac F
  refine Y.pc F 56 (X.a3 (F.ev 17 (Vi h9)) (X.kc (Vi 0) rfl) (F.ev 21 (Vi ((p.nh : Int) - 1)))) Try.func56 (within_any h9 0 ((p.nh : Int) - 1) w11) ?_
  clear F ac
  rintro e w' ⟨rfl, hw_⟩
  obtain rfl : w11 = w' := hw_.symm
  clear hw_
  refine ⟨_, rfl, ?_⟩
  intro ac F
  refine Y.pv F (X.notB rfl (F.ev 22 (.bool (withinB h9 0 ((p.nh : Int) - 1)))) rfl) ?_;clear F ac;intro ac F
  refine Y.nt F [(3, Vp w.heap.size), (4, Vp w6.heap.size), (5, Vp w8.heap.size), (23, .bool (!(withinB h9 0 ((p.nh : Int) - 1))))] ?_;clear F ac;intro ac F
  cases h13 : withinB h9 0 ((p.nh : Int) - 1) with
  | false =>
   try rw [h13] at F
   have hih : isH p h9 = false := by rw [← within_isH]; exact h13
   refine Y.condT (F.ev 23 (.bool true)) ?_
   refine Y.sg F [(6, .slice none 0 0), (7, Vi 0), (8, Vi 1)] (Y.pv F (X.assign rfl (X.kc (.slice none 0 0) rfl)) fun ac F=>Y.pv F (X.assign rfl (X.kc (Vi 0) rfl)) fun ac F=>Y.pv F (X.assign rfl (X.kc (Vi 1) rfl)) fun ac F=>Y.fin F) ?_;clear F ac;intro ac F
   refine Y.ret ?_
   refine X.thenR ?_
   have hb := rep_1 hwh hih
   exact Y.ret0 (v := .tuple #[.slice none 0 0, Vi 0, Vi 1]) F (Y.rs3 F rfl (by kernel_rfl) (by kernel_rfl) (by kernel_rfl)) ⟨none, 0, by rw [hb]; rfl, by rw [hb]; exact Ints.nil0 _, by rw [hb]; exact fun _ => ⟨rfl, rfl⟩, G⟩
  | true =>
   try rw [h13] at F
   have hih : isH p h9 = true := by rw [← within_isH]; exact h13
   refine Y.condF (F.ev 23 (.bool false)) ?_
   refine Y.skip ?_
   refine X.thenN ?_
   refine Y.sl ?_
   refine Y.pv2 F (X.load rfl (F.ev 3 (Vp w.heap.size)) (X.ldN (Try.agg27 _) (Try.siz27 _) (Y.atz (⟨w.heap.size, 0, none⟩) (Y.AtFrom.cons (hC.at 0 rfl) (Y.AtFrom.cons (hC.at 1 rfl) (Y.AtFrom.cons (hC.at 2 rfl) (Y.AtFrom.cons (hC.at 3 rfl) (Y.AtFrom.nil _ _ _)))))))) (fun _ F=>Y.fnc rfl (Y.m2 (F.ev 4 (Vp w6.heap.size)) (F.ev 5 (Vp w8.heap.size)))) ?_;clear F ac;intro ac F
   have hcx := (hC.at 4 rfl)
   have hch := (hC.at 5 rfl)
   refine Y.pc F 64 (X.a3 (F.ev 24 (.agg #[.slice ta p.nt tc, .slice ha p.nh hc, .slice ba p.nb bc, .slice la p.nl lc])) (X.kc (Vi 1) rfl) (F.ev 25 (.func (.func 79) #[] #[Vp w6.heap.size, Vp w8.heap.size]))) Try.func64 (first_any p ta ha ba la tc hc bc lc 1 79 #[Vp w6.heap.size, Vp w8.heap.size] (mvR xs h9) w11 (hP.gr G) hp (by decide) (enters_of Try.func79 (by kernel_rfl) rfl) (fun W zs a9 c9 g hi hl _ => mv_any a9 a c9 c zs xs w6.heap.size w8.heap.size h9 W hi (hX.gr (G.trans g)) (RCells.cons ((g.cell (lt_cell hcx)).trans hcx) (RCells.cons ((g.cell (lt_cell hch)).trans hch) (RCells.nil _))) (by omega))) ?_
   clear F ac
   have hfG := G
   rintro e w14 ⟨rb, kv, lv, L, B, rfl, hRk, hV, hrb, hBw, hLm, g⟩
   refine ⟨_, rfl, ?_⟩
   intro ac F
   replace G := G.trans g
   replace hC := hC.gr g
   replace hpt := hpt.gr g
   replace hph := hph.gr g
   replace hpb := hpb.gr g
   replace hpl := hpl.gr g
   replace hxs := hxs.gr g
   clear g
   rw [first_law hp (by decide) (mvR xs h9) (fun _ _ _ _ _ k => mvR_ok k) (fun _ _ _ _ _ => mvR_mo)] at hV
   injection hV with hV
   replace hV := hV.symm
   obtain ⟨ka, kc, rfl⟩ := hRk.k.form
   obtain ⟨la9, lc9, rfl⟩ := hRk.l.form
   refine Y.pv F (X.assign rfl (F.ev 26 (Vp rb))) ?_;clear F ac;intro ac F
   refine Y.nt F [(10, Vp rb)] ?_;clear F ac;intro ac F
   refine Y.seq ?_
   refine Y.sl ?_
   refine Y.pv3 F (X.move rfl (F.ev 10 (Vp rb))) (fun _ F=>Y.nilC rfl (F.ev 27 (Vp rb))) (fun _ F=>X.field rfl (F.ev 28 (Vp rb)) (X.fld Try.underlying91 rfl (Try.siz38 _) rfl rfl)) ?_;clear F ac;intro ac F
   replace hC := hC.append (show RCells w14 (bcells rb [Vi (1 : Nat), .slice ka L.length kc, .slice la9 L.length lc9] 0) from (RCells.cons (hRk.own.cell (k := 0) (by decide)) (RCells.cons (hRk.own.cell (k := 1) (by decide)) (RCells.cons (hRk.own.cell (k := 2) (by decide)) (RCells.nil _)))))
   refine Y.pv3 F (X.load rfl (F.ev 29 (.pointer (some ⟨rb, 2, none⟩))) (X.ld1 (Try.agg38 _) (hC.at 8 rfl))) (fun _ F=>X.len1 Try.underlying38 rfl (F.ev 30 (.slice la9 L.length lc9))) (fun _ F=>X.binop rfl (F.ev 31 (Vi L.length)) (X.kc (Vi 0) rfl) (X.eqlI Try.underlying3 rfl)) ?_;clear F ac;intro ac F
   refine Y.nt F [(10, Vp rb), (32, .bool ((L.length : Int) == 0))] ?_;clear F ac;intro ac F
   cases h15 : ((L.length : Int) == 0) with
   | false =>
    try rw [h15] at F
    have h15p : ¬ (L.length : Int) = 0 := by simpa using h15
    obtain ⟨y, hy⟩ : ∃ y, L[0]? = some y := ⟨_, List.getElem?_eq_getElem (by omega)⟩
    obtain ⟨g9, Lr, rfl, -⟩ := hRk.k.row (by omega)
    obtain ⟨g8, Lr8, rfl, -⟩ := hRk.l.row (by omega)
    have hkc := keys_cell hRk.k rfl hy
    have hlc := begs_cell hRk.l rfl hy
    have hyb := hRk.b y (List.mem_of_getElem? hy)
    replace hC := hC.append (show RCells w14 ([(⟨g9, 0 * 2, none⟩, Vi y.1.1), (⟨g9, 0 * 2 + 1, none⟩, Vi y.1.2), (Ad g8 0, .slice y.2.a y.2.xs.length y.2.c)]) from (RCells.cons hkc.1 (RCells.cons hkc.2 (RCells.cons hlc (RCells.nil _)))))
    refine Y.condF (F.ev 32 (.bool false)) ?_
    refine Y.skip ?_
    refine X.thenN ?_
    refine Y.seq ?_
    refine Y.region F [some (Vp rb), some (Vp rb), some (.pointer (some ⟨rb, 2, none⟩)), some (.slice (some ⟨g8, 0, none⟩) L.length lc9), some (Vp g8), some (.slice y.2.a y.2.xs.length y.2.c), some (Vp rb), some (Vp rb), some (.pointer (some ⟨rb, 1, none⟩)), some (.slice (some ⟨g9, 0, none⟩) L.length kc), some (.pointer (some ⟨g9, 0 * 2, none⟩)), some (.pointer (some ⟨g9, 0 * 2, none⟩)), some (Vi y.1.1), some (.slice y.2.a y.2.xs.length y.2.c), some (Vi y.1.1), some (Vi 0)] [] rfl ⟨by kernel_rfl, of_decide_eq_true (by kernel_rfl), by kernel_rfl, by kernel_rfl, by kernel_rfl⟩ ⟨?_, ?_, ?_, ?_, ?_, ?_, ?_, ?_, ?_, ?_, ?_, ?_, ?_, ?_, ?_, ?_, trivial⟩ ?_
    ·intro ac done u W Sx hR
     exact X.vl (X.move rfl (Sx.ev 10 (Vp rb))) hR.st0
    ·intro ac done u W Sx hR
     exact X.vl (Y.nilC rfl (Sx.ev 33 (Vp rb))) hR.st0
    ·intro ac done u W Sx hR
     exact X.vl (X.field rfl (Sx.ev 34 (Vp rb)) (X.fld Try.underlying91 rfl (Try.siz38 _) rfl rfl)) hR.st0
    ·intro ac done u W Sx hR
     have g : Gr w14 W := hR.1
     exact X.vl (X.load rfl (Sx.ev 35 (.pointer (some ⟨rb, 2, none⟩))) (X.ld1 (Try.agg38 _) ((hC.gr g).at 8 rfl))) hR.st0
    ·intro ac done u W Sx hR
     exact X.vl (X.index rfl (Sx.ev 36 (.slice (some ⟨g8, 0, none⟩) L.length lc9)) (X.kc (Vi 0) rfl) (X.idx (k := 0) Try.underlying38 (Try.siz34 _) (by omega) (by omega) (addr_add0 _ _))) hR.st0
    ·intro ac done u W Sx hR
     have g : Gr w14 W := hR.1
     exact X.vl (X.load rfl (Sx.ev 37 (Vp g8)) (X.ld1 (Try.agg34 _) ((hC.gr g).at 11 rfl))) hR.st0
    ·intro ac done u W Sx hR
     exact X.vl (X.move rfl (Sx.ev 10 (Vp rb))) hR.st0
    ·intro ac done u W Sx hR
     exact X.vl (Y.nilC rfl (Sx.ev 39 (Vp rb))) hR.st0
    ·intro ac done u W Sx hR
     exact X.vl (X.field rfl (Sx.ev 40 (Vp rb)) (X.fld Try.underlying91 rfl (Try.siz89 _) rfl rfl)) hR.st0
    ·intro ac done u W Sx hR
     have g : Gr w14 W := hR.1
     exact X.vl (X.load rfl (Sx.ev 41 (.pointer (some ⟨rb, 1, none⟩))) (X.ld1 (Try.agg89 _) ((hC.gr g).at 7 rfl))) hR.st0
    ·intro ac done u W Sx hR
     exact X.vl (X.index rfl (Sx.ev 42 (.slice (some ⟨g9, 0, none⟩) L.length kc)) (X.kc (Vi 0) rfl) (X.idx (k := 0) Try.underlying89 (Try.siz92 _) (by omega) (by omega) (addr_add0 _ _))) hR.st0
    ·intro ac done u W Sx hR
     exact X.vl (X.index rfl (Sx.ev 43 (.pointer (some ⟨g9, 0 * 2, none⟩))) (X.kc (Vi 0) rfl) (Y.idxA (k := 0) Try.underlying92 (Try.siz3 _) (by decide) (by omega) (by omega) rfl)) hR.st0
    ·intro ac done u W Sx hR
     have g : Gr w14 W := hR.1
     exact X.vl (X.load rfl (Sx.ev 44 (.pointer (some ⟨g9, 0 * 2, none⟩))) (X.ld1 (Try.agg3 _) ((hC.gr g).at 9 rfl))) hR.st0
    ·intro ac done u W Sx hR
     exact X.vl (X.assign rfl (Sx.ev 38 (.slice y.2.a y.2.xs.length y.2.c))) hR.st0
    ·intro ac done u W Sx hR
     exact X.vl (X.assign rfl (Sx.ev 45 (Vi y.1.1))) hR.st0
    ·intro ac done u W Sx hR
     exact X.vl (X.assign rfl (X.kc (Vi 0) rfl)) hR.st0
    intro ac u w16 hs hd hl ho hR
    have g : Gr w14 w16 := hR.1
    replace F : Fr ac 46 [(6, .slice y.2.a y.2.xs.length y.2.c), (7, Vi y.1.1), (8, Vi 0)] := X.fr hs hd hl _ (by kernel_rfl)
    clear hs hd hl ho hR
    replace G := G.trans g
    replace hC := hC.gr g
    replace hpt := hpt.gr g
    replace hph := hph.gr g
    replace hpb := hpb.gr g
    replace hpl := hpl.gr g
    replace hxs := hxs.gr g
    replace hRk := hRk.gr g
    clear g
    refine X.thenN ?_
    refine Y.ret ?_
    have hb := rep_3 hwh hih (rep_s hV hy)
    exact Y.ret0 (v := .tuple #[.slice y.2.a y.2.xs.length y.2.c, Vi y.1.1, Vi 0]) F (Y.rs3 F rfl (by kernel_rfl) (by kernel_rfl) (by kernel_rfl)) ⟨y.2.a, y.2.c, by rw [hb], by rw [hb]; exact (hRk.b y (List.mem_of_getElem? hy)).i, by rw [hb]; exact hyb.nil, G⟩
   | true =>
    try rw [h15] at F
    have h15p : (L.length : Int) = 0 := by simpa using h15
    refine Y.condT (F.ev 32 (.bool true)) ?_
    refine Y.sg F [(6, .slice none 0 0), (7, Vi 0), (8, Vi 3)] (Y.pv F (X.assign rfl (X.kc (.slice none 0 0) rfl)) fun ac F=>Y.pv F (X.assign rfl (X.kc (Vi 0) rfl)) fun ac F=>Y.pv F (X.assign rfl (X.kc (Vi 3) rfl)) fun ac F=>Y.fin F) ?_;clear F ac;intro ac F
    refine Y.ret ?_
    refine X.thenR ?_
    have hb := rep_2 hwh hih (rep_n hV (by omega))
    exact Y.ret0 (v := .tuple #[.slice none 0 0, Vi 0, Vi 3]) F (Y.rs3 F rfl (by kernel_rfl) (by kernel_rfl) (by kernel_rfl)) ⟨none, 0, by rw [hb]; rfl, by rw [hb]; exact Ints.nil0 _, by rw [hb]; exact fun _ => ⟨rfl, rfl⟩, G⟩
 | true =>
  try rw [h12] at F
  have h12p : ¬ (whoE p xs : Int) = 0 := by simpa using h12
  refine Y.condT (F.ev 15 (.bool true)) ?_
  refine Y.sg F [(6, .slice none 0 0), (7, Vi 0), (8, Vi (whoE p xs))] (Y.pv F (X.move rfl (F.ev 9 (Vi (whoE p xs)))) fun ac F=>Y.pv F (X.assign rfl (X.kc (.slice none 0 0) rfl)) fun ac F=>Y.pv F (X.assign rfl (X.kc (Vi 0) rfl)) fun ac F=>Y.pv F (X.assign rfl (F.ev 16 (Vi (whoE p xs)))) fun ac F=>Y.fin F) ?_;clear F ac;intro ac F
  refine Y.ret ?_
  refine X.thenR ?_
  have hb := rep_0 (p := p) (plan := xs) (host := h9) (by omega)
  exact Y.ret0 (v := .tuple #[.slice none 0 0, Vi 0, Vi (whoE p xs)]) F (Y.rs3 F rfl (by kernel_rfl) (by kernel_rfl) (by kernel_rfl)) ⟨none, 0, by rw [hb]; rfl, by rw [hb]; exact Ints.nil0 _, by rw [hb]; exact fun _ => ⟨rfl, rfl⟩, G⟩
end
section
open Go.RowKit

/-- a problem in memory of the call's own -/
structure PbOwn (w : World) (B : Nat) (p : Pb) (ta ha ba la : Option Addr) (tc hc bc lc : Nat) : Prop where
  t : OwnR w B 74 4 (.slice ta p.nt tc) p.nt (tbL (tvV p) p.nt 4)
  h : OwnR w B 53 6 (.slice ha p.nh hc) p.nh (tbL (hvV p) p.nh 6)
  b : OwnR w B 65 3 (.slice ba p.nb bc) p.nb (tbL (bvV p) p.nb 3)
  l : OwnR w B 84 3 (.slice la p.nl lc) p.nl (tbL (lvV p) p.nl 3)
  s1 : ∀ i, i < p.nt → (p.tn i).size ≤ 9223372036854775807
  s2 : ∀ i, i < p.nh → (p.hn i).size ≤ 9223372036854775807
def SmlP (p : Pb) : Prop := p.nt ≤ 20 ∧ p.nh ≤ 20 ∧ p.nb ≤ 40 ∧ p.nl ≤ 40
theorem PbOwn.at {w : World} {B : Nat} {p : Pb} {ta ha ba la : Option Addr} {tc hc bc lc : Nat} (h : PbOwn w B p ta ha ba la tc hc bc lc) (hz : SmlP p) : PbAt w p ta ha ba la tc hc bc lc := by
  obtain ⟨h1, h2, h3, h4⟩ := hz
  exact ⟨h.t.tb (by omega), h.h.tb (by omega), h.b.tb (by omega), h.l.tb (by omega), h.s1, h.s2⟩
theorem PbOwn.gr {w w' : World} {B : Nat} {p : Pb} {ta ha ba la : Option Addr} {tc hc bc lc : Nat} (h : PbOwn w B p ta ha ba la tc hc bc lc) (g : Gr w w') : PbOwn w' B p ta ha ba la tc hc bc lc := ⟨h.t.gr g, h.h.gr g, h.b.gr g, h.l.gr g, h.s1, h.s2⟩
theorem OwnR.after {w w' : World} {b B e k n c : Nat} {a : Option Addr} {xs : List Value} (h : OwnR w B e k (.slice a n c) n xs) (g : Only (fun x => x = b) w w') (hb : b < B) : OwnR w' B e k (.slice a n c) n xs :=
  h.only g (fun x hx e => by have h1 := (h.ge hx).1; have h2 : x = b := e; omega)
set_option maxRecDepth 100000 in
set_option maxHeartbeats 400000 in
theorem ints_any (a : Option Addr) (c : Nat) (xs : List Int) (w : World) (hX : Ints w a xs.length xs) (hl : xs.length ≤ 100000) :
  Calls Try.prog 33 #[.slice a xs.length c] w fun e w' => ∃ a' c', e = .returned (.slice a' xs.length c') ∧ OwnR w' w.heap.size 3 1 (.slice a' xs.length c') xs.length (xs.map (Value.int .i64)) ∧ Gr w w' := by
 have G := Gr.refl w
 have hxs := hX
 refine Y.calls 6 Try.func33 rfl rfl ?_
 intro ac F0
 have F : Fr ac 6 [(0, .slice a xs.length c)] := F0.sub _
 clear F0
 refine Y.sg F [(0, .slice a xs.length c)] (Y.pv F (X.assign rfl (X.kc (.slice none 0 0) rfl)) fun ac F=>Y.fin F) ?_;clear F ac;intro ac F
 refine Y.sl ?_
 refine Y.pv F (X.bs rfl X.bs0 (Try.bs34_0 _)) ?_;clear F ac;intro ac F
 have g := Gr.alloc w (.cells #[] 3)
 have hO := ownR_new (k := 1) (heap_alloc_new w (.cells #[] 3)) (Nat.le_refl _)
 generalize w.alloc (.cells #[] 3) = w3 at *
 replace G := G.trans g
 replace hxs := hxs.gr g
 clear g
 refine Y.pv F (X.move rfl (F.ev 0 (.slice a xs.length c))) ?_;clear F ac;intro ac F
 obtain ⟨ra, rc, w4, hrun, hO2, g⟩ := run_copyN (P := Try.prog) (ts := 34) Try.underlying34 Try.info3 rfl (by decide) hO (ints_tb hxs).2 (by rw [List.length_map, Nat.mul_one]) (ints_tb hxs).1 (ints_all xs) (by omega) (by decide) G.size
 refine Y.pv F (Y.apz rfl (F.ev 3 (.slice (some ⟨w.heap.size, 0, none⟩) 0 0)) (F.ev 4 (.slice a xs.length c)) hrun) ?_
 clear F ac hrun
 intro ac F
 replace G := G.trans g
 replace hxs := hxs.gr g
 refine Y.pv F (X.assign rfl (F.ev 5 (.slice ra xs.length rc))) ?_;clear F ac;intro ac F
 refine Y.nt F [(2, .slice ra xs.length rc)] ?_;clear F ac;intro ac F
 refine Y.ret ?_
 exact Y.ret0 (v := .slice ra xs.length rc) F (Y.r1 F) ⟨ra, rc, rfl, hO2, G⟩
set_option maxRecDepth 100000 in
set_option maxHeartbeats 2000000 in
theorem copy_any (p : Pb) (ta ha ba la : Option Addr) (tc hc bc lc : Nat) (w : World) (hP : PbAt w p ta ha ba la tc hc bc lc) (hz : SmlP p) :
  Calls Try.prog 17 #[.agg #[.slice ta p.nt tc, .slice ha p.nh hc, .slice ba p.nb bc, .slice la p.nl lc]] w fun e w' => ∃ ta ha ba la tc hc bc lc, e = .returned (.agg #[.slice ta p.nt tc, .slice ha p.nh hc, .slice ba p.nb bc, .slice la p.nl lc]) ∧ PbOwn w' w.heap.size p ta ha ba la tc hc bc lc ∧ Gr w w' := by
 have G := Gr.refl w
 have hpt := hP.t
 have hph := hP.h
 have hpb := hP.b
 have hpl := hP.l
 have hplen := hP.len
 obtain ⟨hn1, hn2, hn3, hn4⟩ := hplen
 have hcp1 := hpt.cap
 have hcp2 := hph.cap
 have hcp3 := hpb.cap
 have hcp4 := hpl.cap
 obtain ⟨hz1, hz2, hz3, hz4⟩ := hz
 refine Y.calls 20 Try.func17 rfl rfl ?_
 intro ac F0
 have F : Fr ac 20 [(0, .agg #[.slice ta p.nt tc, .slice ha p.nh hc, .slice ba p.nb bc, .slice la p.nl lc])] := F0.sub _
 clear F0
 refine Y.sl ?_
 have hgs3 : w.heap.size ≤ w.heap.size := G.size
 refine Y.pv F (X.box rfl (F.ev 0 (.agg #[.slice ta p.nt tc, .slice ha p.nh hc, .slice ba p.nb bc, .slice la p.nl lc])) X.bx) ?_;clear F ac;intro ac F
 have hgs5 : w.heap.size ≤ w.heap.size := G.size
 obtain ⟨w6, hw_, g, hb, hbl, hC2⟩ := Y.bxd (RCells.nil w) #[.slice ta p.nt tc, .slice ha p.nh hc, .slice ba p.nb bc, .slice la p.nl lc] 27;rw [hw_];clear hw_
 replace G := G.trans g
 have hC := hC2
 clear hC2
 replace hpt := hpt.gr g
 replace hph := hph.gr g
 replace hpb := hpb.gr g
 replace hpl := hpl.gr g
 have hsz4 := hbl
 clear g hb hbl
 refine Y.pv F (Y.al rfl (Try.new27 _)) ?_;clear F ac;intro ac F
 have g := Gr.alloc w6 (.cells #[.slice none 0 0, .slice none 0 0, .slice none 0 0, .slice none 0 0] 27)
 have hb := heap_alloc_new w6 (.cells #[.slice none 0 0, .slice none 0 0, .slice none 0 0, .slice none 0 0] 27)
 have hszw7 : w6.heap.size < (w6.alloc (.cells #[.slice none 0 0, .slice none 0 0, .slice none 0 0, .slice none 0 0] 27)).heap.size := by simp
 have hgsw7 : w.heap.size ≤ w6.heap.size := G.size
 generalize w6.alloc (.cells #[.slice none 0 0, .slice none 0 0, .slice none 0 0, .slice none 0 0] 27) = w7 at *
 replace G := G.trans g
 replace hC := hC.gr g
 replace hpt := hpt.gr g
 replace hph := hph.gr g
 replace hpb := hpb.gr g
 replace hpl := hpl.gr g
 have hVw7 : OwnP w7 w6.heap.size 4 (VL [.slice none 0 0, .slice none 0 0, .slice none 0 0, .slice none 0 0]) := ownP_bx (vs := [.slice none 0 0, .slice none 0 0, .slice none 0 0, .slice none 0 0]) hb
 clear g hb
 refine Y.nt F [(1, Vp w.heap.size), (2, Vp w6.heap.size)] ?_;clear F ac;intro ac F
 refine Y.seq ?_
 have hgL : w.heap.size ≤ w7.heap.size := G.size
 have hbB := hVw7.lt
 have hbw : w.heap.size ≤ w6.heap.size := by first | exact Nat.le_refl _ | omega
 obtain ⟨TT, hTT⟩ : ∃ T : (Nat → Value) → World → Prop, T = fun _ W => ∃ t0 c0 t1 c1 t2 c2 t3 c3, OwnP W w6.heap.size 4 (VL [.slice t0 p.nt c0, .slice t1 p.nh c1, .slice t2 p.nb c2, .slice t3 p.nl c3]) ∧ Only (fun x => x = w6.heap.size) w7 W ∧ OwnR W w7.heap.size 74 4 (.slice t0 p.nt c0) p.nt (tbL (tvV p) p.nt 4) ∧ OwnR W w7.heap.size 53 6 (.slice t1 p.nh c1) p.nh (tbL (hvV p) p.nh 6) ∧ OwnR W w7.heap.size 65 3 (.slice t2 p.nb c2) p.nb (tbL (bvV p) p.nb 3) ∧ OwnR W w7.heap.size 84 3 (.slice t3 p.nl c3) p.nl (tbL (lvV p) p.nl 3) := ⟨_, rfl⟩
 refine Y.regionS F [none, some (Vp w.heap.size), some (.slice ta p.nt tc), none, none, some (.pointer (some ⟨w.heap.size, 1, none⟩)), some (.slice ha p.nh hc), none, none, some (.pointer (some ⟨w.heap.size, 2, none⟩)), some (.slice ba p.nb bc), none, none, some (.pointer (some ⟨w.heap.size, 3, none⟩)), some (.slice la p.nl lc), none, none, none] [(0, Y.MP.row0 w7.heap.size 74 4), (3, Y.MP.row w7.heap.size 74 4 p.nt (tbL (tvV p) p.nt 4)), (4, Y.MP.row0 w7.heap.size 53 6), (7, Y.MP.row w7.heap.size 53 6 p.nh (tbL (hvV p) p.nh 6)), (8, Y.MP.row0 w7.heap.size 65 3), (11, Y.MP.row w7.heap.size 65 3 p.nb (tbL (bvV p) p.nb 3)), (12, Y.MP.row0 w7.heap.size 84 3), (15, Y.MP.row w7.heap.size 84 3 p.nl (tbL (lvV p) p.nl 3)), (16, Y.MP.pbv w7.heap.size p)] 17 TT rfl ⟨by kernel_rfl, of_decide_eq_true (by kernel_rfl), by kernel_rfl, by kernel_rfl, by kernel_rfl⟩ (of_decide_eq_true (by kernel_rfl)) ⟨?_, ?_, ?_, ?_, ?_, ?_, ?_, ?_, ?_, ?_, ?_, ?_, ?_, ?_, ?_, ?_, ?_, ?_, trivial⟩ ?_
 ·intro ac done u W Sx hT
  have hs := Sx.no 17 (by kernel_rfl)
  have hR := hT.1 hs
  have g : Gr w7 W := hR.1
  exact X.valN (X.w0 rfl) rfl (X.bs rfl X.bs0 (Try.bs22_0 _)) (Y.RT.of hs rfl (hR.new (q := Y.MP.row0 w7.heap.size 74 4) (Gr.alloc _ _) rfl ⟨_, rfl, ownR_new (heap_alloc_new _ _) g.size⟩))
 ·intro ac done u W Sx hT
  have hs := Sx.no 17 (by kernel_rfl)
  have hR := hT.1 hs
  have g : Gr w7 W := hR.1
  exact X.vl (X.field rfl (Sx.ev 1 (Vp w.heap.size)) (X.fld Try.underlying27 rfl (Try.siz22 _) rfl rfl)) (Y.RT.of hs rfl hR.st0)
 ·intro ac done u W Sx hT
  have hs := Sx.no 17 (by kernel_rfl)
  have hR := hT.1 hs
  have g : Gr w7 W := hR.1
  exact X.vl (X.load rfl (Sx.ev 4 (Vp w.heap.size)) (X.ld1 (Try.agg22 _) ((hC.gr g).at 0 rfl))) (Y.RT.of hs rfl hR.st0)
 ·intro ac done u W Sx hT
  have hs := Sx.no 17 (by kernel_rfl)
  have hR := hT.1 hs
  have g : Gr w7 W := hR.1
  obtain ⟨ra0, e0, hI0⟩ := hR.get (i := 0) (Y.MP.row0 w7.heap.size 74 4) rfl (Sx.an 0 (by kernel_rfl))
  obtain ⟨a9, c9, W2, hrun, hO2, g2⟩ := run_copyN (P := Try.prog) (ts := 22) Try.underlying22 Try.info74 rfl (by decide) hI0 (hpt.gr g).none0 tbL_len ((hpt.gr g).src (by decide)) (tv_one p _) (by omega) (by decide) g.size
  exact X.valN (X.w0 rfl) rfl (Y.apz rfl ((Sx.own 0 3 rfl).trans e0) (Sx.ev 5 (.slice ta p.nt tc)) hrun) (Y.RT.of hs rfl (hR.new (q := Y.MP.row w7.heap.size 74 4 p.nt (tbL (tvV p) p.nt 4)) g2 rfl ⟨_, _, rfl, hO2⟩))
 ·intro ac done u W Sx hT
  have hs := Sx.no 17 (by kernel_rfl)
  have hR := hT.1 hs
  have g : Gr w7 W := hR.1
  exact X.valN (X.w0 rfl) rfl (X.bs rfl X.bs0 (Try.bs23_0 _)) (Y.RT.of hs rfl (hR.new (q := Y.MP.row0 w7.heap.size 53 6) (Gr.alloc _ _) rfl ⟨_, rfl, ownR_new (heap_alloc_new _ _) g.size⟩))
 ·intro ac done u W Sx hT
  have hs := Sx.no 17 (by kernel_rfl)
  have hR := hT.1 hs
  have g : Gr w7 W := hR.1
  exact X.vl (X.field rfl (Sx.ev 1 (Vp w.heap.size)) (X.fld Try.underlying27 rfl (Try.siz23 _) rfl rfl)) (Y.RT.of hs rfl hR.st0)
 ·intro ac done u W Sx hT
  have hs := Sx.no 17 (by kernel_rfl)
  have hR := hT.1 hs
  have g : Gr w7 W := hR.1
  exact X.vl (X.load rfl (Sx.ev 8 (.pointer (some ⟨w.heap.size, 1, none⟩))) (X.ld1 (Try.agg23 _) ((hC.gr g).at 1 rfl))) (Y.RT.of hs rfl hR.st0)
 ·intro ac done u W Sx hT
  have hs := Sx.no 17 (by kernel_rfl)
  have hR := hT.1 hs
  have g : Gr w7 W := hR.1
  obtain ⟨ra4, e4, hI4⟩ := hR.get (i := 4) (Y.MP.row0 w7.heap.size 53 6) rfl (Sx.an 4 (by kernel_rfl))
  obtain ⟨a9, c9, W2, hrun, hO2, g2⟩ := run_copyN (P := Try.prog) (ts := 23) Try.underlying23 Try.info53 rfl (by decide) hI4 (hph.gr g).none0 tbL_len ((hph.gr g).src (by decide)) (hv_one p _) (by omega) (by decide) g.size
  exact X.valN (X.w0 rfl) rfl (Y.apz rfl ((Sx.own 4 7 rfl).trans e4) (Sx.ev 9 (.slice ha p.nh hc)) hrun) (Y.RT.of hs rfl (hR.new (q := Y.MP.row w7.heap.size 53 6 p.nh (tbL (hvV p) p.nh 6)) g2 rfl ⟨_, _, rfl, hO2⟩))
 ·intro ac done u W Sx hT
  have hs := Sx.no 17 (by kernel_rfl)
  have hR := hT.1 hs
  have g : Gr w7 W := hR.1
  exact X.valN (X.w0 rfl) rfl (X.bs rfl X.bs0 (Try.bs24_0 _)) (Y.RT.of hs rfl (hR.new (q := Y.MP.row0 w7.heap.size 65 3) (Gr.alloc _ _) rfl ⟨_, rfl, ownR_new (heap_alloc_new _ _) g.size⟩))
 ·intro ac done u W Sx hT
  have hs := Sx.no 17 (by kernel_rfl)
  have hR := hT.1 hs
  have g : Gr w7 W := hR.1
  exact X.vl (X.field rfl (Sx.ev 1 (Vp w.heap.size)) (X.fld Try.underlying27 rfl (Try.siz24 _) rfl rfl)) (Y.RT.of hs rfl hR.st0)
 ·intro ac done u W Sx hT
  have hs := Sx.no 17 (by kernel_rfl)
  have hR := hT.1 hs
  have g : Gr w7 W := hR.1
  exact X.vl (X.load rfl (Sx.ev 12 (.pointer (some ⟨w.heap.size, 2, none⟩))) (X.ld1 (Try.agg24 _) ((hC.gr g).at 2 rfl))) (Y.RT.of hs rfl hR.st0)
 ·intro ac done u W Sx hT
  have hs := Sx.no 17 (by kernel_rfl)
  have hR := hT.1 hs
  have g : Gr w7 W := hR.1
  obtain ⟨ra8, e8, hI8⟩ := hR.get (i := 8) (Y.MP.row0 w7.heap.size 65 3) rfl (Sx.an 8 (by kernel_rfl))
  obtain ⟨a9, c9, W2, hrun, hO2, g2⟩ := run_copyN (P := Try.prog) (ts := 24) Try.underlying24 Try.info65 rfl (by decide) hI8 (hpb.gr g).none0 tbL_len ((hpb.gr g).src (by decide)) (bv_one p _) (by omega) (by decide) g.size
  exact X.valN (X.w0 rfl) rfl (Y.apz rfl ((Sx.own 8 11 rfl).trans e8) (Sx.ev 13 (.slice ba p.nb bc)) hrun) (Y.RT.of hs rfl (hR.new (q := Y.MP.row w7.heap.size 65 3 p.nb (tbL (bvV p) p.nb 3)) g2 rfl ⟨_, _, rfl, hO2⟩))
 ·intro ac done u W Sx hT
  have hs := Sx.no 17 (by kernel_rfl)
  have hR := hT.1 hs
  have g : Gr w7 W := hR.1
  exact X.valN (X.w0 rfl) rfl (X.bs rfl X.bs0 (Try.bs25_0 _)) (Y.RT.of hs rfl (hR.new (q := Y.MP.row0 w7.heap.size 84 3) (Gr.alloc _ _) rfl ⟨_, rfl, ownR_new (heap_alloc_new _ _) g.size⟩))
 ·intro ac done u W Sx hT
  have hs := Sx.no 17 (by kernel_rfl)
  have hR := hT.1 hs
  have g : Gr w7 W := hR.1
  exact X.vl (X.field rfl (Sx.ev 1 (Vp w.heap.size)) (X.fld Try.underlying27 rfl (Try.siz25 _) rfl rfl)) (Y.RT.of hs rfl hR.st0)
 ·intro ac done u W Sx hT
  have hs := Sx.no 17 (by kernel_rfl)
  have hR := hT.1 hs
  have g : Gr w7 W := hR.1
  exact X.vl (X.load rfl (Sx.ev 16 (.pointer (some ⟨w.heap.size, 3, none⟩))) (X.ld1 (Try.agg25 _) ((hC.gr g).at 3 rfl))) (Y.RT.of hs rfl hR.st0)
 ·intro ac done u W Sx hT
  have hs := Sx.no 17 (by kernel_rfl)
  have hR := hT.1 hs
  have g : Gr w7 W := hR.1
  obtain ⟨ra12, e12, hI12⟩ := hR.get (i := 12) (Y.MP.row0 w7.heap.size 84 3) rfl (Sx.an 12 (by kernel_rfl))
  obtain ⟨a9, c9, W2, hrun, hO2, g2⟩ := run_copyN (P := Try.prog) (ts := 25) Try.underlying25 Try.info84 rfl (by decide) hI12 (hpl.gr g).none0 tbL_len ((hpl.gr g).src (by decide)) (lv_one p _) (by omega) (by decide) g.size
  exact X.valN (X.w0 rfl) rfl (Y.apz rfl ((Sx.own 12 15 rfl).trans e12) (Sx.ev 17 (.slice la p.nl lc)) hrun) (Y.RT.of hs rfl (hR.new (q := Y.MP.row w7.heap.size 84 3 p.nl (tbL (lvV p) p.nl 3)) g2 rfl ⟨_, _, rfl, hO2⟩))
 ·intro ac done u W Sx hT
  have hs := Sx.no 17 (by kernel_rfl)
  have hR := hT.1 hs
  have g : Gr w7 W := hR.1
  obtain ⟨ra3, rc3, e3, hI3⟩ := hR.get (i := 3) (Y.MP.row w7.heap.size 74 4 p.nt (tbL (tvV p) p.nt 4)) rfl (Sx.an 3 (by kernel_rfl))
  obtain ⟨ra7, rc7, e7, hI7⟩ := hR.get (i := 7) (Y.MP.row w7.heap.size 53 6 p.nh (tbL (hvV p) p.nh 6)) rfl (Sx.an 7 (by kernel_rfl))
  obtain ⟨ra11, rc11, e11, hI11⟩ := hR.get (i := 11) (Y.MP.row w7.heap.size 65 3 p.nb (tbL (bvV p) p.nb 3)) rfl (Sx.an 11 (by kernel_rfl))
  obtain ⟨ra15, rc15, e15, hI15⟩ := hR.get (i := 15) (Y.MP.row w7.heap.size 84 3 p.nl (tbL (lvV p) p.nl 3)) rfl (Sx.an 15 (by kernel_rfl))
  exact X.valN (X.w0 rfl) rfl (Y.bd rfl (X.b4 ((Sx.own 3 6 rfl).trans e3) ((Sx.own 7 10 rfl).trans e7) ((Sx.own 11 14 rfl).trans e11) ((Sx.own 15 18 rfl).trans e15)) (Try.bd27f _ _ _ _ _ _ _ _ _ _ _ _ _)) (Y.RT.of hs rfl (hR.new (q := Y.MP.pbv w7.heap.size p) (Gr.refl _) rfl ⟨_, _, _, _, _, _, _, _, rfl, hI3, hI7, hI11, hI15⟩))
 ·intro ac done u W Sx hT
  have hR := hT.1 Sx.nd
  have g : Gr w7 W := hR.1
  obtain ⟨t0, c0, t1, c1, t2, c2, t3, c3, e16, hO0, hO1, hO2, hO3⟩ := hR.get (i := 16) (Y.MP.pbv w7.heap.size p) rfl (Sx.an 16 (by kernel_rfl))
  obtain ⟨W2, hrun, hV2, hon⟩ := ownP_store (P := Try.prog) (vs := [.slice t0 p.nt c0, .slice t1 p.nh c1, .slice t2 p.nb c2, .slice t3 p.nl c3]) (t := 27) (hVw7.gr g) rfl (fun W => Try.siz27 W) rfl
  exact X.unit (X.w0 rfl) rfl (X.store rfl (Sx.ev 2 (Vp w6.heap.size)) ((Sx.own 16 19 rfl).trans e16) hrun) (Y.RT.fin (by subst hTT; exact ⟨t0, c0, t1, c1, t2, c2, t3, c3, hV2, (g.only _).trans hon, hO0.after hon hbB, hO1.after hon hbB, hO2.after hon hbB, hO3.after hon hbB⟩))
 rintro ac u w8 hs hd hl_ ho hT
 rw [hTT] at hT
 obtain ⟨t0, c0, t1, c1, t2, c2, t3, c3, hV2, hon, hO0, hO1, hO2, hO3⟩ := hT
 clear hTT
 replace F : Fr ac 20 [(2, Vp w6.heap.size)] := X.fr hs hd hl_ _ (by kernel_rfl)
 clear hs hd hl_ ho
 replace G := Y.Only.up G hon (by omega)
 refine X.thenN ?_
 refine Y.ret ?_
 exact Y.ret0 (v := .agg #[.slice t0 p.nt c0, .slice t1 p.nh c1, .slice t2 p.nb c2, .slice t3 p.nl c3]) F (Y.rcl F rfl (by kernel_rfl) (ownP_load hV2 (Try.agg27 _) (Try.siz27 _) rfl)) ⟨t0, t1, t2, t3, c0, c1, c2, c3, rfl, ⟨hO0.lower hgL, hO1.lower hgL, hO2.lower hgL, hO3.lower hgL, hP.s1, hP.s2⟩, G⟩
end
section
open Go.RowKit

theorem OwnR.intsS {W : World} {B c : Nat} {a : Option Addr} {xs : List Int} (h : OwnR W B 3 1 (.slice a xs.length c) xs.length (xs.map (Value.int .i64))) (hl : xs.length < 1152921504606846976) : Ints W a xs.length xs := by
  obtain ⟨a', c', e, h'⟩ := h.ints hl
  injection e with e
  subst e; exact h'
theorem large_far {p : Pb} (h : largeB p = false) : farB p = false := by
  cases e : farB p with
  | false => rfl
  | true => unfold largeB at h; rw [e] at h; cases h
theorem large_sz {p : Pb} (h : largeB p = false) : SmlP p := far_sz (large_far h)
theorem large_pl {p : Pb} (h : largeB p = false) : chkE p = 0 → p.nt ≤ 5 ∧ p.nh ≤ 4 := fun hc => by
  simp [largeB, hc] at h
  omega
end
end Go.Proofs.Ytodedneanlekdaa
