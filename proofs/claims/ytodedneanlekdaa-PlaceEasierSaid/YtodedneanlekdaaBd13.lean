/- Several texts of this claim in one file. (1) Contract: the law about easier problems. (2) An array of three numbers that came in. -/
import Derived.Test.YtodedneanlekdaaBd12
import Derived.Test.YtodedneanlekdaaBd10
import Derived.Laws.IdiomArrays
namespace Go.Proofs.Ytodedneanlekdaa
set_option linter.unusedSimpArgs false
set_option linter.unusedVariables false
section
open Go.RowKit

/-- the branches of a test meet again -/
theorem Y.seqJ {P : Program} {ro : Option Nat} {x y : Code} {Q : Exit → Act → World → Prop} {A : Act} {W : World} (J : Act → World → Prop) (h : x.wpIn (FW ro) 0 P (Exit.then J Q) A W) (hJ : ∀ A W, J A W → y.wpIn (FW ro) 0 P Q A W) : (Code.seq x y).wpIn (FW ro) 0 P Q A W :=
  wpIn_seq (wpIn_mono h (fun e a w hq => by
    cases e with
    | normal => exact hJ _ _ hq
    | exit id => exact hq
    | goto l => exact hq
    | ret => exact hq
    | panic ch => exact hq
    | outgrown => exact hq))
set_option maxRecDepth 100000 in
set_option maxHeartbeats 2000000 in
theorem easier_any (p : Pb) (ta ha ba la : Option Addr) (tc hc bc lc : Nat) (b m0 m1 m2 : Int) (w : World) (hP : PbAt w p ta ha ba la tc hc bc lc) :
  Calls Try.prog 7 #[.agg #[.slice ta p.nt tc, .slice ha p.nh hc, .slice ba p.nb bc, .slice la p.nl lc], Vi b, .agg #[Vi m0, Vi m1, Vi m2]] w fun e w' => e = .returned (.bool true) ∧ Gr w w' := by
 have G := Gr.refl w
 have hPP := hP
 refine Y.calls 144 Try.func7 rfl rfl ?_
 intro ac F0
 have F : Fr ac 144 [(0, .agg #[.slice ta p.nt tc, .slice ha p.nh hc, .slice ba p.nb bc, .slice la p.nl lc]), (1, Vi b), (2, .agg #[Vi m0, Vi m1, Vi m2])] := F0.sub _
 clear F0
 refine Y.sl ?_
 have hgs3 : w.heap.size ≤ w.heap.size := G.size
 refine Y.pv F (X.box rfl (F.ev 0 (.agg #[.slice ta p.nt tc, .slice ha p.nh hc, .slice ba p.nb bc, .slice la p.nl lc])) X.bx) ?_;clear F ac;intro ac F
 have hgs5 : w.heap.size ≤ w.heap.size := G.size
 obtain ⟨w6, hw_, g, hb, hbl, hC2⟩ := Y.bxd (RCells.nil w) #[.slice ta p.nt tc, .slice ha p.nh hc, .slice ba p.nb bc, .slice la p.nl lc] 27;rw [hw_];clear hw_
 replace G := G.trans g
 have hC := hC2
 clear hC2
 replace hPP := hPP.gr g
 have hsz4 := hbl
 clear g hb hbl
 have hgs7 : w.heap.size ≤ w6.heap.size := G.size
 refine Y.pv F (X.box rfl (F.ev 2 (.agg #[Vi m0, Vi m1, Vi m2])) X.bx) ?_;clear F ac;intro ac F
 have hgs9 : w.heap.size ≤ w6.heap.size := G.size
 obtain ⟨w10, hw_, g, hb, hbl, hC2⟩ := Y.bxd hC #[Vi m0, Vi m1, Vi m2] 50;rw [hw_];clear hw_
 replace G := G.trans g
 replace hC := hC2
 clear hC2
 replace hPP := hPP.gr g
 have hsz8 := hbl
 clear g hb hbl
 refine Y.pv F (X.assign rfl (X.kc (.bool false) rfl)) ?_;clear F ac;intro ac F
 refine Y.nt F [(1, Vi b), (3, Vp w.heap.size), (5, Vp w6.heap.size)] ?_;clear F ac;intro ac F
 refine Y.seq ?_
 refine Y.sl ?_
 refine Y.pv F (X.load rfl (F.ev 3 (Vp w.heap.size)) (X.ldN (Try.agg27 _) (Try.siz27 _) (Y.atz (⟨w.heap.size, 0, none⟩) (Y.AtFrom.cons (hC.at 0 rfl) (Y.AtFrom.cons (hC.at 1 rfl) (Y.AtFrom.cons (hC.at 2 rfl) (Y.AtFrom.cons (hC.at 3 rfl) (Y.AtFrom.nil _ _ _)))))))) ?_;clear F ac;intro ac F
 refine Y.pc F 21 (X.a1 (F.ev 18 (.agg #[.slice ta p.nt tc, .slice ha p.nh hc, .slice ba p.nb bc, .slice la p.nl lc]))) Try.func21 (large_any p ta ha ba la tc hc bc lc w10 hPP) ?_
 clear F ac
 rintro e w11 ⟨rfl, g⟩
 refine ⟨_, rfl, ?_⟩
 intro ac F
 replace G := G.trans g
 replace hC := hC.gr g
 replace hPP := hPP.gr g
 clear g
 refine Y.pv F (X.move rfl (F.ev 19 (.bool (largeB p)))) ?_;clear F ac;intro ac F
 cases h12 : largeB p with
 | false =>
  try rw [h12] at F
  have hz : SmlP p := large_sz h12
  have hlg := large_pl h12
  have hz2 : SmlP (eP p b m0 m1 m2) := e_sml hz
  refine Y.pg F 2 20 false (X.load rfl (F.ev 3 (Vp w.heap.size)) (X.ldN (Try.agg27 _) (Try.siz27 _) (Y.atz (⟨w.heap.size, 0, none⟩) (Y.AtFrom.cons (hC.at 0 rfl) (Y.AtFrom.cons (hC.at 1 rfl) (Y.AtFrom.cons (hC.at 2 rfl) (Y.AtFrom.cons (hC.at 3 rfl) (Y.AtFrom.nil _ _ _)))))))) ?_;clear F ac;intro ac F
  refine Y.pcall F (X.w1 rfl (F.yl (j := 2) (d := 20) (b := false) rfl (by kernel_rfl))) rfl (X.enter (F := 19) rfl (X.kc (.func (.func 19) #[] #[]) rfl) (X.a1 (F.ev 21 (.agg #[.slice ta p.nt tc, .slice ha p.nh hc, .slice ba p.nb bc, .slice la p.nl lc]))) (enters_of Try.func19 (by kernel_rfl) rfl _)) (check2_any p ta ha ba la tc hc bc lc w11 hPP) ?_
  clear F ac
  rintro e w13 ⟨rfl, g⟩
  refine ⟨_, rfl, ?_⟩
  intro ac F
  replace G := G.trans g
  replace hC := hC.gr g
  replace hPP := hPP.gr g
  clear g
  refine Y.pg F 2 20 false (X.binop rfl (F.ev 22 (Vi (chkE p))) (X.kc (Vi 0) rfl) (X.neqI Try.underlying31 rfl)) ?_;clear F ac;intro ac F
  refine Y.pv F (X.pickF rfl (F.ev 20 (.bool false)) (F.ev 23 (.bool ((chkE p : Int) != 0)))) ?_;clear F ac;intro ac F
  refine Y.nt F [(1, Vi b), (3, Vp w.heap.size), (5, Vp w6.heap.size), (24, .bool ((chkE p : Int) != 0))] ?_;clear F ac;intro ac F
  cases h14 : ((chkE p : Int) != 0) with
  | false =>
   try rw [h14] at F
   have h14p : (chkE p : Int) = 0 := by simpa using h14
   have hck : chkE p = 0 := by omega
   have he1 := best_e hck
   have he2 := best_e (e_chk (b := b) (m0 := m0) (m1 := m1) (m2 := m2) hck)
   refine Y.condF (F.ev 24 (.bool false)) ?_
   refine Y.skip ?_
   refine X.thenN ?_
   refine Y.sl ?_
   refine Y.pv F (X.load rfl (F.ev 3 (Vp w.heap.size)) (X.ldN (Try.agg27 _) (Try.siz27 _) (Y.atz (⟨w.heap.size, 0, none⟩) (Y.AtFrom.cons (hC.at 0 rfl) (Y.AtFrom.cons (hC.at 1 rfl) (Y.AtFrom.cons (hC.at 2 rfl) (Y.AtFrom.cons (hC.at 3 rfl) (Y.AtFrom.nil _ _ _)))))))) ?_;clear F ac;intro ac F
   refine Y.pc F 17 (X.a1 (F.ev 26 (.agg #[.slice ta p.nt tc, .slice ha p.nh hc, .slice ba p.nb bc, .slice la p.nl lc]))) Try.func17 (copy_any p ta ha ba la tc hc bc lc w13 hPP hz) ?_
   have hlc0 : w.heap.size < w13.heap.size := lt_cell (hC.at 0 rfl)
   have hlc1 : w6.heap.size < w13.heap.size := lt_cell (hC.at 4 rfl)
   have hwc : w.heap.size ≤ w13.heap.size := G.size
   clear F ac
   rintro e w16 ⟨ta15, ha15, ba15, la15, tc15, hc15, bc15, lc15, rfl, hO15, g⟩
   have hQ15 := hO15.at hz
   have hnq := hO15.nq
   have hsc : w13.heap.size ≤ w16.heap.size := g.size
   refine ⟨_, rfl, ?_⟩
   intro ac F
   replace G := G.trans g
   replace hC := hC.gr g
   replace hPP := hPP.gr g
   clear g
   refine Y.pv F (Y.al rfl (Try.new27 _)) ?_;clear F ac;intro ac F
   refine Y.punit F (X.w0 rfl) rfl (X.store rfl (F.ev 7 (Vp w16.heap.size)) (F.ev 27 (.agg #[.slice ta15 p.nt tc15, .slice ha15 p.nh hc15, .slice ba15 p.nb bc15, .slice la15 p.nl lc15])) (Y.stNew [.slice ta15 p.nt tc15, .slice ha15 p.nh hc15, .slice ba15 p.nb bc15, .slice la15 p.nl lc15] [.slice none 0 0, .slice none 0 0, .slice none 0 0, .slice none 0 0] (Try.siz27 _) rfl rfl)) ?_;clear F ac;intro ac F
   have g := Gr.alloc w16 (.cells #[.slice ta15 p.nt tc15, .slice ha15 p.nh hc15, .slice ba15 p.nb bc15, .slice la15 p.nl lc15] 27)
   have hb := heap_alloc_new w16 (.cells #[.slice ta15 p.nt tc15, .slice ha15 p.nh hc15, .slice ba15 p.nb bc15, .slice la15 p.nl lc15] 27)
   have hszw17 : w16.heap.size < (w16.alloc (.cells #[.slice ta15 p.nt tc15, .slice ha15 p.nh hc15, .slice ba15 p.nb bc15, .slice la15 p.nl lc15] 27)).heap.size := by simp
   have hgsw17 : w.heap.size ≤ w16.heap.size := G.size
   generalize w16.alloc (.cells #[.slice ta15 p.nt tc15, .slice ha15 p.nh hc15, .slice ba15 p.nb bc15, .slice la15 p.nl lc15] 27) = w17 at *
   replace G := G.trans g
   replace hC := hC.gr g
   replace hPP := hPP.gr g
   replace hQ15 := hQ15.gr g
   replace hO15 := hO15.gr g
   have hVw17 : OwnP w17 w16.heap.size 4 (VL [.slice ta15 p.nt tc15, .slice ha15 p.nh hc15, .slice ba15 p.nb bc15, .slice la15 p.nl lc15]) := ownP_bx (vs := [.slice ta15 p.nt tc15, .slice ha15 p.nh hc15, .slice ba15 p.nb bc15, .slice la15 p.nl lc15]) hb
   clear g hb
   refine Y.nt F [(1, Vi b), (3, Vp w.heap.size), (5, Vp w6.heap.size), (7, Vp w16.heap.size)] ?_;clear F ac;intro ac F
   have hqW := hVw17.lt
   refine Y.seqJ (fun ac wr => (∃ (ba8 : Option Addr) (bc8 : Nat), Only (fun x => w13.heap.size ≤ x) w17 wr ∧ EpR wr w13.heap.size w16.heap.size p b m0 m1 m2 ta15 ha15 ba8 la15 tc15 hc15 bc8 lc15 0 0 ∧ OwnP wr w16.heap.size 4 (VL [.slice ta15 p.nt tc15, .slice ha15 p.nh hc15, .slice ba8 ((eP p b m0 m1 m2).nb) bc8, .slice la15 p.nl lc15])) ∧ Fr ac 144 [(3, Vp w.heap.size), (5, Vp w6.heap.size), (7, Vp w16.heap.size)]) ?_ ?_
   ·refine Y.seq ?_
    refine Y.lit (by kernel_rfl) ?_
    refine Y.pv3 F (X.move rfl (F.ev 1 (Vi b))) (fun _ F=>X.binop rfl (F.ev 28 (Vi b)) (X.kc (Vi 0) rfl) (X.geqI Try.underlying3 rfl)) (fun _ F=>X.move rfl (F.ev 29 (.bool (decide ((0 : Int) ≤ b))))) ?_;clear F ac;intro ac F
    cases h18 : decide ((0 : Int) ≤ b) with
    | false =>
     try rw [h18] at F
     have h18p : ¬ ((0 : Int) ≤ b) := of_decide_eq_false h18
     refine Y.ps F 2 30 false ?_;clear F ac;intro ac F
     refine Y.ps F 2 30 false ?_;clear F ac;intro ac F
     refine Y.ps F 2 30 false ?_;clear F ac;intro ac F
     refine Y.ps F 2 30 false ?_;clear F ac;intro ac F
     refine Y.ps F 2 30 false ?_;clear F ac;intro ac F
     refine Y.pv F (X.pickF rfl (F.ev 30 (.bool false)) (X.kc (.bool false) rfl)) ?_;clear F ac;intro ac F
     refine Y.nt F [(1, Vi b), (3, Vp w.heap.size), (5, Vp w6.heap.size), (7, Vp w16.heap.size), (36, .bool false)] ?_;clear F ac;intro ac F
     refine Y.condF (F.ev 36 (.bool false)) ?_
     refine Y.skip ?_
     refine X.thenN ?_
     have hnb : ¬ bonI p b := by unfold bonI; omega
     obtain ⟨e9, hE9⟩ := ep_no (m0 := m0) (m1 := m1) (m2 := m2) hO15 hnq hnb
     exact ⟨⟨ba15, bc15, Only.refl _ _, hE9, by rw [e9]; exact hVw17⟩, F.sub _⟩
    | true =>
     try rw [h18] at F
     have h18p : ((0 : Int) ≤ b) := of_decide_eq_true h18
     refine Y.pg F 2 30 true (X.move rfl (F.ev 1 (Vi b))) ?_;clear F ac;intro ac F
     refine Y.pg F 2 30 true (X.field rfl (F.ev 7 (Vp w16.heap.size)) (X.fld Try.underlying27 rfl (Try.siz24 _) rfl rfl)) ?_;clear F ac;intro ac F
     replace hC := hC.append (show RCells w17 ([(Ad w16.heap.size 2, .slice ba15 p.nb bc15)]) from (RCells.cons (hVw17.cell (k := 2) (by omega)) (RCells.nil _)))
     refine Y.pg F 2 30 true (X.load rfl (F.ev 32 (.pointer (some ⟨w16.heap.size, 2, none⟩))) (X.ld1 (Try.agg24 _) (hC.at 7 rfl))) ?_;clear F ac;intro ac F
     refine Y.pg F 2 30 true (X.len1 Try.underlying24 rfl (F.ev 33 (.slice ba15 p.nb bc15))) ?_;clear F ac;intro ac F
     refine Y.pg F 2 30 true (X.binop rfl (F.ev 31 (Vi b)) (F.ev 34 (Vi p.nb)) (X.lssI Try.underlying3 rfl)) ?_;clear F ac;intro ac F
     refine Y.pv F (X.pickT rfl (F.ev 30 (.bool true)) (F.ev 35 (.bool (decide ((b : Int) < p.nb))))) ?_;clear F ac;intro ac F
     refine Y.nt F [(1, Vi b), (3, Vp w.heap.size), (5, Vp w6.heap.size), (7, Vp w16.heap.size), (36, .bool (decide ((b : Int) < p.nb)))] ?_;clear F ac;intro ac F
     cases h19 : decide ((b : Int) < p.nb) with
     | false =>
      try rw [h19] at F
      have h19p : ¬ ((b : Int) < p.nb) := of_decide_eq_false h19
      refine Y.condF (F.ev 36 (.bool false)) ?_
      refine Y.skip ?_
      refine X.thenN ?_
      have hnb : ¬ bonI p b := by unfold bonI; omega
      obtain ⟨e9, hE9⟩ := ep_no (m0 := m0) (m1 := m1) (m2 := m2) hO15 hnq hnb
      exact ⟨⟨ba15, bc15, Only.refl _ _, hE9, by rw [e9]; exact hVw17⟩, F.sub _⟩
     | true =>
      try rw [h19] at F
      have h19p : ((b : Int) < p.nb) := of_decide_eq_true h19
      refine Y.condT (F.ev 36 (.bool true)) ?_
      have hbi : bonI p b := ⟨by omega, by omega⟩
      have hnb0 := hz.2.2.1
      have hcap := hO15.b.le
      refine region_xi F [some (.pointer (some ⟨w16.heap.size, 2, none⟩)), some (.slice ba15 p.nb bc15), some (Vi b), some (.slice ba15 b.toNat bc15), some (.pointer (some ⟨w16.heap.size, 2, none⟩)), some (.slice ba15 p.nb bc15), some (Vi b), some (Vi ((b : Int) + 1)), some (.slice (if bc15 = b.toNat + 1 then (ba15 : Option Addr) else Option.map (fun x : Addr => x.add ((b.toNat + 1) * 3)) ba15) (p.nb - (b.toNat + 1)) (bc15 - (b.toNat + 1))), none, some (.pointer (some ⟨w16.heap.size, 2, none⟩)), none] (RAp w17 0 9 11 (fun _ _ => True) (fun v W => ∃ (ba8 : Option Addr) (bc8 : Nat), v = .slice ba8 (eP p b m0 m1 m2).nb bc8 ∧ EpR W w13.heap.size w16.heap.size p b m0 m1 m2 ta15 ha15 ba8 la15 tc15 hc15 bc8 lc15 0 0 ∧ OwnP W w16.heap.size 4 (VL [.slice ta15 p.nt tc15, .slice ha15 p.nh hc15, .slice ba15 p.nb bc15, .slice la15 p.nl lc15]) ∧ Only (fun x => w13.heap.size ≤ x) w17 W) (fun W => ∃ (ba8 : Option Addr) (bc8 : Nat), EpR W w13.heap.size w16.heap.size p b m0 m1 m2 ta15 ha15 ba8 la15 tc15 hc15 bc8 lc15 0 0 ∧ OwnP W w16.heap.size 4 (VL [.slice ta15 p.nt tc15, .slice ha15 p.nh hc15, .slice ba8 ((eP p b m0 m1 m2).nb) bc8, .slice la15 p.nl lc15]) ∧ Only (fun x => w13.heap.size ≤ x) w17 W)) rfl ⟨by kernel_rfl, of_decide_eq_true (by kernel_rfl), by kernel_rfl, by kernel_rfl, by kernel_rfl⟩ (fun _ => ⟨RAp.start (Gr.refl _), RAp.start (Gr.drew _)⟩) ⟨?_, ?_, ?_, ?_, ?_, ?_, ?_, ?_, ?_, ?_, ?_, ?_, trivial⟩ ?_
      ·intro ac done u W Sx hR
       have g : Gr w17 W := hR.g (Sx.no 9 (by kernel_rfl)) (Sx.no 11 (by kernel_rfl))
       exact X.vl (X.field rfl (Sx.ev 7 (Vp w16.heap.size)) (X.fld Try.underlying27 rfl (Try.siz24 _) rfl rfl)) (hR.s9 (by decide) (Sx.no 9 (by kernel_rfl)) (Sx.no 11 (by kernel_rfl)) (Gr.refl _) trivial)
      ·intro ac done u W Sx hR
       have g : Gr w17 W := hR.g (Sx.no 9 (by kernel_rfl)) (Sx.no 11 (by kernel_rfl))
       exact X.vl (X.load rfl (Sx.ev 37 (.pointer (some ⟨w16.heap.size, 2, none⟩))) (X.ld1 (Try.agg24 _) ((hC.gr g).at 7 rfl))) (hR.quiet (by decide))
      ·intro ac done u W Sx hR
       have g : Gr w17 W := hR.g (Sx.no 9 (by kernel_rfl)) (Sx.no 11 (by kernel_rfl))
       exact X.vl (X.move rfl (Sx.ev 1 (Vi b))) (hR.quiet (by decide))
      ·intro ac done u W Sx hR
       have g : Gr w17 W := hR.g (Sx.no 9 (by kernel_rfl)) (Sx.no 11 (by kernel_rfl))
       exact X.vl (Y.slH (k := b.toNat) rfl (Sx.ev 38 (.slice ba15 p.nb bc15)) (Sx.ev 39 (Vi b)) Try.underlying24 (Try.siz65 _) (by omega) (by omega)) (hR.quiet (by decide))
      ·intro ac done u W Sx hR
       have g : Gr w17 W := hR.g (Sx.no 9 (by kernel_rfl)) (Sx.no 11 (by kernel_rfl))
       exact X.vl (X.field rfl (Sx.ev 7 (Vp w16.heap.size)) (X.fld Try.underlying27 rfl (Try.siz24 _) rfl rfl)) (hR.quiet (by decide))
      ·intro ac done u W Sx hR
       have g : Gr w17 W := hR.g (Sx.no 9 (by kernel_rfl)) (Sx.no 11 (by kernel_rfl))
       exact X.vl (X.load rfl (Sx.ev 41 (.pointer (some ⟨w16.heap.size, 2, none⟩))) (X.ld1 (Try.agg24 _) ((hC.gr g).at 7 rfl))) (hR.quiet (by decide))
      ·intro ac done u W Sx hR
       have g : Gr w17 W := hR.g (Sx.no 9 (by kernel_rfl)) (Sx.no 11 (by kernel_rfl))
       exact X.vl (X.move rfl (Sx.ev 1 (Vi b))) (hR.quiet (by decide))
      ·intro ac done u W Sx hR
       have g : Gr w17 W := hR.g (Sx.no 9 (by kernel_rfl)) (Sx.no 11 (by kernel_rfl))
       exact X.vl (X.binop rfl (Sx.ev 43 (Vi b)) (X.kc (Vi 1) rfl) (X.addI Try.underlying3 rfl (by omega) (by omega))) (hR.quiet (by decide))
      ·intro ac done u W Sx hR
       have g : Gr w17 W := hR.g (Sx.no 9 (by kernel_rfl)) (Sx.no 11 (by kernel_rfl))
       exact X.vl (Y.slL (i := b.toNat + 1) rfl (Sx.ev 42 (.slice ba15 p.nb bc15)) (Sx.ev 44 (Vi ((b : Int) + 1))) Try.underlying24 (Try.siz65 _) (by omega) (by omega) (by omega)) (hR.quiet (by decide))
      ·intro ac done u W Sx hR
       have g : Gr w17 W := hR.g Sx.nd (Sx.no 11 (by kernel_rfl))
       have hO9 := hO15.gr g
       obtain ⟨h1, h2⟩ := hO9.b.tailK (i := b.toNat + 1) (by omega) (by decide)
       refine X.law (X.w0 rfl) (fun K_ hK => wp_pushG Try.underlying24 Try.info65 rfl (by decide) rfl (Sx.ev 40 (.slice ba15 b.toNat bc15)) (Sx.ev 45 (.slice (if bc15 = b.toNat + 1 then (ba15 : Option Addr) else Option.map (fun x : Addr => x.add ((b.toNat + 1) * 3)) ba15) (p.nb - (b.toNat + 1)) (bc15 - (b.toNat + 1)))) (hO9.b.takeS (m := b.toNat) (by omega) (by omega)) h1 (by rw [List.length_drop, tbL_len, ← Nat.sub_mul]) h2 (all_drop (bv_one p _) _) (by omega) (by decide) (Nat.le_trans (by omega) g.size) (fun v2 W2 hO2 hon hat => hK v2 W2 (fun x hx => by cases hx) (hR.s10 (by decide) (Sx.no 11 (by kernel_rfl)) ?_)))
       obtain ⟨a8, c8, rfl⟩ := hO2.form
       obtain ⟨e9, hE9⟩ := ep_yes (m0 := m0) (m1 := m1) (m2 := m2) hO9 hnq (Nat.lt_of_lt_of_le hqW g.size) hbi hon hO2 hat
       exact ⟨a8, c8, by rw [e9], hE9, (hVw17.gr g).only hon (fun e => hnq.2.2.1.own e rfl), (g.only _).trans (hon.mono' (fun x e => (hO9.b.takeS (m := b.toNat) (by omega) (by omega)).ge e |>.1))⟩
      ·intro ac done u W Sx hR
       exact X.vl (X.field rfl (Sx.ev 7 (Vp w16.heap.size)) (X.fld Try.underlying27 rfl (Try.siz24 _) rfl rfl)) (hR.quiet (by decide))
      ·intro ac done u W Sx hR
       obtain ⟨a8, c8, e9, hE9, hV9, ho9⟩ := hR.g10 (Sx.an 9 (by kernel_rfl)) Sx.nd
       have hV8 := (hV9.set (k := 2) (.slice a8 (eP p b m0 m1 m2).nb c8)).congr (val' := VL [.slice ta15 p.nt tc15, .slice ha15 p.nh hc15, .slice a8 (eP p b m0 m1 m2).nb c8, .slice la15 p.nl lc15]) (fun k hk => by
        have : k = 0 ∨ k = 1 ∨ k = 2 ∨ k = 3 := by omega
        rcases this with rfl | rfl | rfl | rfl <;> rfl)
       exact X.unit (X.w0 rfl) rfl (X.store rfl (Sx.ev 47 (.pointer (some ⟨w16.heap.size, 2, none⟩))) ((Sx.own 9 46 rfl).trans e9) (hV9.st1 (Try.siz24 _) rfl rfl (by decide))) (RAp.s13 ⟨a8, c8, hE9.only (Y.set_only _ _ _ _) (fun x e => .inl e), hV8, ho9.trans ((Y.set_only _ _ _ _).mono' (fun x e => by have e : x = w16.heap.size := e; omega))⟩)
      rintro ac u w20 hs hd hl_ ho hR
      obtain ⟨a8, c8, hE9, hV9, ho9⟩ := hR.g13 rfl
      replace F : Fr ac 144 [(3, Vp w.heap.size), (5, Vp w6.heap.size), (7, Vp w16.heap.size)] := X.fr hs hd hl_ _ (by kernel_rfl)
      clear hs hd hl_ ho hR
      refine X.thenN ?_
      exact ⟨⟨a8, c8, ho9, hE9, hV9⟩, F.sub _⟩
   ·have GJ := G
    have hCJ := hC
    clear F ac G hC
    intro ac w21 hJ_
    obtain ⟨⟨ba8, bc8, hoJ, hE, hV⟩, F⟩ := hJ_
    have G : Gr w w21 := ((GJ.only (fun b => w.heap.size ≤ b)).trans (hoJ.mono' (fun i e => by have e : w13.heap.size ≤ i := e; omega))).gr (fun i hi e => by omega)
    replace hPP := (hP).gr G
    have hC := (RCells.cons (hoJ.cell (hCJ.at 0 rfl) (fun e => by have e : w13.heap.size ≤ w.heap.size := e; omega)) (RCells.cons (hoJ.cell (hCJ.at 1 rfl) (fun e => by have e : w13.heap.size ≤ w.heap.size := e; omega)) (RCells.cons (hoJ.cell (hCJ.at 2 rfl) (fun e => by have e : w13.heap.size ≤ w.heap.size := e; omega)) (RCells.cons (hoJ.cell (hCJ.at 3 rfl) (fun e => by have e : w13.heap.size ≤ w.heap.size := e; omega)) (RCells.cons (hoJ.cell (hCJ.at 4 rfl) (fun e => by have e : w13.heap.size ≤ w6.heap.size := e; omega)) (RCells.cons (hoJ.cell (hCJ.at 5 rfl) (fun e => by have e : w13.heap.size ≤ w6.heap.size := e; omega)) (RCells.cons (hoJ.cell (hCJ.at 6 rfl) (fun e => by have e : w13.heap.size ≤ w6.heap.size := e; omega)) (RCells.nil _))))))))
    refine Y.seq ?_
    refine Y.sg F [(3, Vp w.heap.size), (5, Vp w6.heap.size), (7, Vp w16.heap.size), (8, Vi 0)] (Y.pv F (X.assign rfl (X.kc (Vi 0) rfl)) fun ac F=>Y.fin F) ?_;clear F ac;intro ac F
    refine Y.block ?_
    refine Y.loop (fun me_ ac wr => ∃ i : Nat, me_ = p.nh - i ∧ i ≤ p.nh ∧ Only (fun x => w13.heap.size ≤ x) w21 wr ∧ OwnP wr w16.heap.size 4 (VL [.slice ta15 p.nt tc15, .slice ha15 p.nh hc15, .slice ba8 ((eP p b m0 m1 m2).nb) bc8, .slice la15 p.nl lc15]) ∧ EpR wr w13.heap.size w16.heap.size p b m0 m1 m2 ta15 ha15 ba8 la15 tc15 hc15 bc8 lc15 i 0 ∧ Fr ac 144 [(3, Vp w.heap.size), (5, Vp w6.heap.size), (7, Vp w16.heap.size), (8, Vi i)]) _ ⟨0, rfl, Nat.zero_le _, Only.refl _ _, hV, hE, F.sub _⟩ ?_
    have GL := G
    have hCL := hC
    clear F ac G hV hE hC
    intro me_ ac w22 hI
    obtain ⟨i, rfl, hi, hoL, hV, hE, F⟩ := hI
    have G : Gr w w22 := ((GL.only (fun b => w.heap.size ≤ b)).trans (hoL.mono' (fun i e => by have e : w13.heap.size ≤ i := e; omega))).gr (fun i hi e => by omega)
    replace hPP := (hP).gr G
    have hC := (RCells.cons (hoL.cell (hCL.at 0 rfl) (fun e => by have e : w13.heap.size ≤ w.heap.size := e; omega)) (RCells.cons (hoL.cell (hCL.at 1 rfl) (fun e => by have e : w13.heap.size ≤ w.heap.size := e; omega)) (RCells.cons (hoL.cell (hCL.at 2 rfl) (fun e => by have e : w13.heap.size ≤ w.heap.size := e; omega)) (RCells.cons (hoL.cell (hCL.at 3 rfl) (fun e => by have e : w13.heap.size ≤ w.heap.size := e; omega)) (RCells.cons (hoL.cell (hCL.at 4 rfl) (fun e => by have e : w13.heap.size ≤ w6.heap.size := e; omega)) (RCells.cons (hoL.cell (hCL.at 5 rfl) (fun e => by have e : w13.heap.size ≤ w6.heap.size := e; omega)) (RCells.cons (hoL.cell (hCL.at 6 rfl) (fun e => by have e : w13.heap.size ≤ w6.heap.size := e; omega)) (RCells.nil _))))))))
    refine Y.seq ?_
    refine Y.sl ?_
    refine Y.pv2 F (X.move rfl (F.ev 8 (Vi i))) (fun _ F=>X.field rfl (F.ev 7 (Vp w16.heap.size)) (X.fld Try.underlying27 rfl (Try.siz23 _) rfl rfl)) ?_;clear F ac;intro ac F
    replace hC := hC.append (show RCells w22 ([(Ad w16.heap.size 1, .slice ha15 p.nh hc15)]) from (RCells.cons (hV.cell (k := 1) (by omega)) (RCells.nil _)))
    refine Y.pv3 F (X.load rfl (F.ev 49 (.pointer (some ⟨w16.heap.size, 1, none⟩))) (X.ld1 (Try.agg23 _) (hC.at 7 rfl))) (fun _ F=>X.len1 Try.underlying23 rfl (F.ev 50 (.slice ha15 p.nh hc15))) (fun _ F=>X.binop rfl (F.ev 48 (Vi i)) (F.ev 51 (Vi p.nh)) (X.lssI Try.underlying3 rfl)) ?_;clear F ac;intro ac F
    refine Y.nt F [(3, Vp w.heap.size), (5, Vp w6.heap.size), (7, Vp w16.heap.size), (8, Vi i), (52, .bool (decide ((i : Int) < p.nh)))] ?_;clear F ac;intro ac F
    cases h23 : decide ((i : Int) < p.nh) with
    | false =>
     try rw [h23] at F
     have h23p : ¬ ((i : Int) < p.nh) := of_decide_eq_false h23
     obtain rfl : i = p.nh := by omega
     have hPq := hE.done hz
     refine Y.condF (F.ev 52 (.bool false)) ?_
     refine Y.exit ?_
     refine X.thenX (X.thenX (X.blockX (X.thenN ?_)))
     refine Y.sl ?_
     refine Y.pv F (X.load rfl (F.ev 3 (Vp w.heap.size)) (X.ldN (Try.agg27 _) (Try.siz27 _) (Y.atz (⟨w.heap.size, 0, none⟩) (Y.AtFrom.cons (hC.at 0 rfl) (Y.AtFrom.cons (hC.at 1 rfl) (Y.AtFrom.cons (hC.at 2 rfl) (Y.AtFrom.cons (hC.at 3 rfl) (Y.AtFrom.nil _ _ _)))))))) ?_;clear F ac;intro ac F
     refine Y.pc F 17 (X.a1 (F.ev 93 (.agg #[.slice ta p.nt tc, .slice ha p.nh hc, .slice ba p.nb bc, .slice la p.nl lc]))) Try.func17 (copy_any p ta ha ba la tc hc bc lc w22 hPP hz) ?_
     clear F ac
     rintro e w25 ⟨ta24, ha24, ba24, la24, tc24, hc24, bc24, lc24, rfl, hO24, g⟩
     have hQ24 := hO24.at hz
     refine ⟨_, rfl, ?_⟩
     intro ac F
     replace G := G.trans g
     replace hC := hC.gr g
     replace hPP := hPP.gr g
     replace hV := hV.gr g
     replace hPq := hPq.gr g
     clear g
     refine Y.pc F 22 (X.a1 (F.ev 94 (.agg #[.slice ta24 p.nt tc24, .slice ha24 p.nh hc24, .slice ba24 p.nb bc24, .slice la24 p.nl lc24]))) Try.func22 (best_any p ta24 ha24 ba24 la24 tc24 hc24 bc24 lc24 w25 hQ24) ?_
     clear F ac
     rintro e w27 ⟨ba26, bc26, rfl, hI26, -, g⟩
     refine ⟨_, rfl, ?_⟩
     intro ac F
     replace G := G.trans g
     replace hC := hC.gr g
     replace hPP := hPP.gr g
     replace hV := hV.gr g
     replace hPq := hPq.gr g
     replace hQ24 := hQ24.gr g
     replace hO24 := hO24.gr g
     clear g
     refine Y.pv4 F (X.move rfl (F.ev 95 (.tuple #[.slice ba26 ((bestR p).1.length) bc26, Vi ((bestR p).2.1), Vi ((bestR p).2.2)]))) (fun _ F=>X.extract rfl (F.ev 92 (.tuple #[.slice ba26 ((bestR p).1.length) bc26, Vi ((bestR p).2.1), Vi ((bestR p).2.2)])) rfl) (fun _ F=>X.extract rfl (F.ev 92 (.tuple #[.slice ba26 ((bestR p).1.length) bc26, Vi ((bestR p).2.1), Vi ((bestR p).2.2)])) rfl) (fun _ F=>X.extract rfl (F.ev 92 (.tuple #[.slice ba26 ((bestR p).1.length) bc26, Vi ((bestR p).2.1), Vi ((bestR p).2.2)])) rfl) ?_;clear F ac;intro ac F
     refine Y.pv3 F (X.assign rfl (F.ev 96 (.slice ba26 ((bestR p).1.length) bc26))) (fun _ F=>X.assign rfl (F.ev 97 (Vi ((bestR p).2.1)))) (fun _ F=>X.assign rfl (F.ev 98 (Vi ((bestR p).2.2)))) ?_;clear F ac;intro ac F
     refine Y.nt F [(7, Vp w16.heap.size), (10, .slice ba26 ((bestR p).1.length) bc26), (11, Vi ((bestR p).2.1)), (12, Vi ((bestR p).2.2))] ?_;clear F ac;intro ac F
     refine Y.sl ?_
     replace hC := hC.append (show RCells w27 ([(Ad w16.heap.size 0, .slice ta15 p.nt tc15)]) from (RCells.cons (hV.cell (k := 0) (by omega)) (RCells.nil _)))
     replace hC := hC.append (show RCells w27 ([(Ad w16.heap.size 2, .slice ba8 ((eP p b m0 m1 m2).nb) bc8)]) from (RCells.cons (hV.cell (k := 2) (by omega)) (RCells.nil _)))
     replace hC := hC.append (show RCells w27 ([(Ad w16.heap.size 3, .slice la15 p.nl lc15)]) from (RCells.cons (hV.cell (k := 3) (by omega)) (RCells.nil _)))
     refine Y.pv F (X.load rfl (F.ev 7 (Vp w16.heap.size)) (X.ldN (Try.agg27 _) (Try.siz27 _) (Y.atz (⟨w16.heap.size, 0, none⟩) (Y.AtFrom.cons (hC.at 8 rfl) (Y.AtFrom.cons (hC.at 7 rfl) (Y.AtFrom.cons (hC.at 9 rfl) (Y.AtFrom.cons (hC.at 10 rfl) (Y.AtFrom.nil _ _ _)))))))) ?_;clear F ac;intro ac F
     refine Y.pc F 17 (X.a1 (F.ev 100 (.agg #[.slice ta15 p.nt tc15, .slice ha15 p.nh hc15, .slice ba8 ((eP p b m0 m1 m2).nb) bc8, .slice la15 p.nl lc15]))) Try.func17 (copy_any (eP p b m0 m1 m2) ta15 ha15 ba8 la15 tc15 hc15 bc8 lc15 w27 hPq hz2) ?_
     clear F ac
     rintro e w29 ⟨ta28, ha28, ba28, la28, tc28, hc28, bc28, lc28, rfl, hO28, g⟩
     have hQ28 := hO28.at hz2
     refine ⟨_, rfl, ?_⟩
     intro ac F
     replace G := G.trans g
     replace hC := hC.gr g
     replace hPP := hPP.gr g
     replace hV := hV.gr g
     replace hPq := hPq.gr g
     replace hQ24 := hQ24.gr g
     replace hO24 := hO24.gr g
     replace hI26 := hI26.gr g
     clear g
     refine Y.pc F 22 (X.a1 (F.ev 101 (.agg #[.slice ta28 ((eP p b m0 m1 m2).nt) tc28, .slice ha28 ((eP p b m0 m1 m2).nh) hc28, .slice ba28 ((eP p b m0 m1 m2).nb) bc28, .slice la28 ((eP p b m0 m1 m2).nl) lc28]))) Try.func22 (best_any (eP p b m0 m1 m2) ta28 ha28 ba28 la28 tc28 hc28 bc28 lc28 w29 hQ28) ?_
     clear F ac
     rintro e w31 ⟨ba30, bc30, rfl, hI30, -, g⟩
     refine ⟨_, rfl, ?_⟩
     intro ac F
     replace G := G.trans g
     replace hC := hC.gr g
     replace hPP := hPP.gr g
     replace hV := hV.gr g
     replace hPq := hPq.gr g
     replace hQ24 := hQ24.gr g
     replace hO24 := hO24.gr g
     replace hI26 := hI26.gr g
     replace hQ28 := hQ28.gr g
     replace hO28 := hO28.gr g
     clear g
     refine Y.pv4 F (X.move rfl (F.ev 102 (.tuple #[.slice ba30 ((bestR (eP p b m0 m1 m2)).1.length) bc30, Vi ((bestR (eP p b m0 m1 m2)).2.1), Vi ((bestR (eP p b m0 m1 m2)).2.2)]))) (fun _ F=>X.extract rfl (F.ev 99 (.tuple #[.slice ba30 ((bestR (eP p b m0 m1 m2)).1.length) bc30, Vi ((bestR (eP p b m0 m1 m2)).2.1), Vi ((bestR (eP p b m0 m1 m2)).2.2)])) rfl) (fun _ F=>X.extract rfl (F.ev 99 (.tuple #[.slice ba30 ((bestR (eP p b m0 m1 m2)).1.length) bc30, Vi ((bestR (eP p b m0 m1 m2)).2.1), Vi ((bestR (eP p b m0 m1 m2)).2.2)])) rfl) (fun _ F=>X.extract rfl (F.ev 99 (.tuple #[.slice ba30 ((bestR (eP p b m0 m1 m2)).1.length) bc30, Vi ((bestR (eP p b m0 m1 m2)).2.1), Vi ((bestR (eP p b m0 m1 m2)).2.2)])) rfl) ?_;clear F ac;intro ac F
     refine Y.pv3 F (X.assign rfl (F.ev 103 (.slice ba30 ((bestR (eP p b m0 m1 m2)).1.length) bc30))) (fun _ F=>X.assign rfl (F.ev 104 (Vi ((bestR (eP p b m0 m1 m2)).2.1)))) (fun _ F=>X.assign rfl (F.ev 105 (Vi ((bestR (eP p b m0 m1 m2)).2.2)))) ?_;clear F ac;intro ac F
     refine Y.nt F [(7, Vp w16.heap.size), (10, .slice ba26 ((bestR p).1.length) bc26), (11, Vi ((bestR p).2.1)), (12, Vi ((bestR p).2.2)), (14, Vi ((bestR (eP p b m0 m1 m2)).2.1)), (15, Vi ((bestR (eP p b m0 m1 m2)).2.2))] ?_;clear F ac;intro ac F
     refine Y.seq ?_
     refine Y.sg F [(7, Vp w16.heap.size), (10, .slice ba26 ((bestR p).1.length) bc26), (11, Vi ((bestR p).2.1)), (12, Vi ((bestR p).2.2)), (14, Vi ((bestR (eP p b m0 m1 m2)).2.1)), (15, Vi ((bestR (eP p b m0 m1 m2)).2.2)), (107, .bool (((bestR p).2.2 : Int) != 0))] (Y.pv F (X.move rfl (F.ev 12 (Vi ((bestR p).2.2)))) fun ac F=>Y.pv F (X.binop rfl (F.ev 106 (Vi ((bestR p).2.2))) (X.kc (Vi 0) rfl) (X.neqI Try.underlying31 rfl)) fun ac F=>Y.fin F) ?_;clear F ac;intro ac F
     cases h32 : (((bestR p).2.2 : Int) != 0) with
     | false =>
      try rw [h32] at F
      have h32p : ((bestR p).2.2 : Int) = 0 := by simpa using h32
      obtain ⟨hL1, hL2, hL3, hL4⟩ := easier_law (b := b) (m0 := m0) (m1 := m1) (m2 := m2) hck (by omega)
      refine Y.condF (F.ev 107 (.bool false)) ?_
      refine Y.skip ?_
      refine X.thenN ?_
      refine Y.sl ?_
      refine Y.pv2 F (X.load rfl (F.ev 7 (Vp w16.heap.size)) (X.ldN (Try.agg27 _) (Try.siz27 _) (Y.atz (⟨w16.heap.size, 0, none⟩) (Y.AtFrom.cons (hC.at 8 rfl) (Y.AtFrom.cons (hC.at 7 rfl) (Y.AtFrom.cons (hC.at 9 rfl) (Y.AtFrom.cons (hC.at 10 rfl) (Y.AtFrom.nil _ _ _)))))))) (fun _ F=>X.move rfl (F.ev 10 (.slice ba26 ((bestR p).1.length) bc26))) ?_;clear F ac;intro ac F
      refine Y.pc F 32 (X.a2 (F.ev 122 (.agg #[.slice ta15 p.nt tc15, .slice ha15 p.nh hc15, .slice ba8 ((eP p b m0 m1 m2).nb) bc8, .slice la15 p.nl lc15])) (F.ev 123 (.slice ba26 ((bestR p).1.length) bc26))) Try.func32 (allowed_any (eP p b m0 m1 m2) ta15 ha15 ba8 la15 tc15 hc15 bc8 lc15 ba26 bc26 ((bestR p).1) w31 hPq hI26) ?_
      clear F ac
      rintro e w33 ⟨rfl, g⟩
      refine ⟨_, rfl, ?_⟩
      intro ac F
      replace G := G.trans g
      replace hC := hC.gr g
      replace hPP := hPP.gr g
      replace hV := hV.gr g
      replace hPq := hPq.gr g
      replace hQ24 := hQ24.gr g
      replace hO24 := hO24.gr g
      replace hI26 := hI26.gr g
      replace hQ28 := hQ28.gr g
      replace hO28 := hO28.gr g
      replace hI30 := hI30.gr g
      clear g
      refine Y.pv4 F (X.move rfl (F.ev 124 (.tuple #[.bool (allowV (eP p b m0 m1 m2) ((bestR p).1)), Vi (whoE (eP p b m0 m1 m2) ((bestR p).1))]))) (fun _ F=>X.extract rfl (F.ev 121 (.tuple #[.bool (allowV (eP p b m0 m1 m2) ((bestR p).1)), Vi (whoE (eP p b m0 m1 m2) ((bestR p).1))])) rfl) (fun _ F=>X.extract rfl (F.ev 121 (.tuple #[.bool (allowV (eP p b m0 m1 m2) ((bestR p).1)), Vi (whoE (eP p b m0 m1 m2) ((bestR p).1))])) rfl) (fun _ F=>X.assign rfl (F.ev 125 (.bool (allowV (eP p b m0 m1 m2) ((bestR p).1))))) ?_;clear F ac;intro ac F
      refine Y.pv F (X.assign rfl (F.ev 126 (Vi (whoE (eP p b m0 m1 m2) ((bestR p).1))))) ?_;clear F ac;intro ac F
      refine Y.nt F [(11, Vi ((bestR p).2.1)), (14, Vi ((bestR (eP p b m0 m1 m2)).2.1)), (15, Vi ((bestR (eP p b m0 m1 m2)).2.2)), (16, .bool (allowV (eP p b m0 m1 m2) ((bestR p).1))), (17, Vi (whoE (eP p b m0 m1 m2) ((bestR p).1)))] ?_;clear F ac;intro ac F
      refine Y.sl ?_
      refine Y.pv3 F (X.move rfl (F.ev 15 (Vi ((bestR (eP p b m0 m1 m2)).2.2)))) (fun _ F=>X.binop rfl (F.ev 127 (Vi ((bestR (eP p b m0 m1 m2)).2.2))) (X.kc (Vi 0) rfl) (X.eqlI Try.underlying31 rfl)) (fun _ F=>X.move rfl (F.ev 128 (.bool (((bestR (eP p b m0 m1 m2)).2.2 : Int) == 0)))) ?_;clear F ac;intro ac F
      cases h34 : (((bestR (eP p b m0 m1 m2)).2.2 : Int) == 0) with
      | false =>
       try rw [h34] at F
       have h34p : ¬ ((bestR (eP p b m0 m1 m2)).2.2 : Int) = 0 := by simpa using h34
       refine Y.ps F 2 129 false ?_;clear F ac;intro ac F
       refine Y.ps F 2 129 false ?_;clear F ac;intro ac F
       refine Y.pv2 F (X.pickF rfl (F.ev 129 (.bool false)) (X.kc (.bool false) rfl)) (fun _ F=>X.move rfl (F.ev 132 (.bool false))) ?_;clear F ac;intro ac F
       refine Y.ps F 6 133 false ?_;clear F ac;intro ac F
       refine Y.pv2 F (X.pickF rfl (F.ev 133 (.bool false)) (X.kc (.bool false) rfl)) (fun _ F=>X.move rfl (F.ev 135 (.bool false))) ?_;clear F ac;intro ac F
       refine Y.ps F 9 136 false ?_;clear F ac;intro ac F
       refine Y.ps F 9 136 false ?_;clear F ac;intro ac F
       refine Y.ps F 9 136 false ?_;clear F ac;intro ac F
       refine Y.pv2 F (X.pickF rfl (F.ev 136 (.bool false)) (X.kc (.bool false) rfl)) (fun _ F=>X.move rfl (F.ev 140 (.bool false))) ?_;clear F ac;intro ac F
       refine Y.ps F 14 141 false ?_;clear F ac;intro ac F
       refine Y.pv2 F (X.pickF rfl (F.ev 141 (.bool false)) (X.kc (.bool false) rfl)) (fun _ F=>X.assign rfl (F.ev 143 (.bool false))) ?_;clear F ac;intro ac F
       refine Y.nt F [(6, .bool false)] ?_;clear F ac;intro ac F
       refine Y.ret ?_
       first
        | (exfalso; omega)
        | (exfalso; simp_all)
      | true =>
       try rw [h34] at F
       have h34p : ((bestR (eP p b m0 m1 m2)).2.2 : Int) = 0 := by simpa using h34
       refine Y.pg F 2 129 true (X.move rfl (F.ev 17 (Vi (whoE (eP p b m0 m1 m2) ((bestR p).1))))) ?_;clear F ac;intro ac F
       refine Y.pg F 2 129 true (X.binop rfl (F.ev 130 (Vi (whoE (eP p b m0 m1 m2) ((bestR p).1)))) (X.kc (Vi 0) rfl) (X.eqlI Try.underlying31 rfl)) ?_;clear F ac;intro ac F
       refine Y.pv2 F (X.pickT rfl (F.ev 129 (.bool true)) (F.ev 131 (.bool ((whoE (eP p b m0 m1 m2) ((bestR p).1) : Int) == 0)))) (fun _ F=>X.move rfl (F.ev 132 (.bool ((whoE (eP p b m0 m1 m2) ((bestR p).1) : Int) == 0)))) ?_;clear F ac;intro ac F
       cases h35 : ((whoE (eP p b m0 m1 m2) ((bestR p).1) : Int) == 0) with
       | false =>
        try rw [h35] at F
        have h35p : ¬ (whoE (eP p b m0 m1 m2) ((bestR p).1) : Int) = 0 := by simpa using h35
        refine Y.ps F 6 133 false ?_;clear F ac;intro ac F
        refine Y.pv2 F (X.pickF rfl (F.ev 133 (.bool false)) (X.kc (.bool false) rfl)) (fun _ F=>X.move rfl (F.ev 135 (.bool false))) ?_;clear F ac;intro ac F
        refine Y.ps F 9 136 false ?_;clear F ac;intro ac F
        refine Y.ps F 9 136 false ?_;clear F ac;intro ac F
        refine Y.ps F 9 136 false ?_;clear F ac;intro ac F
        refine Y.pv2 F (X.pickF rfl (F.ev 136 (.bool false)) (X.kc (.bool false) rfl)) (fun _ F=>X.move rfl (F.ev 140 (.bool false))) ?_;clear F ac;intro ac F
        refine Y.ps F 14 141 false ?_;clear F ac;intro ac F
        refine Y.pv2 F (X.pickF rfl (F.ev 141 (.bool false)) (X.kc (.bool false) rfl)) (fun _ F=>X.assign rfl (F.ev 143 (.bool false))) ?_;clear F ac;intro ac F
        refine Y.nt F [(6, .bool false)] ?_;clear F ac;intro ac F
        refine Y.ret ?_
        first
         | (exfalso; omega)
         | (exfalso; simp_all)
       | true =>
        try rw [h35] at F
        have h35p : (whoE (eP p b m0 m1 m2) ((bestR p).1) : Int) = 0 := by simpa using h35
        refine Y.pg F 6 133 true (X.move rfl (F.ev 16 (.bool (allowV (eP p b m0 m1 m2) ((bestR p).1))))) ?_;clear F ac;intro ac F
        refine Y.pv2 F (X.pickT rfl (F.ev 133 (.bool true)) (F.ev 134 (.bool (allowV (eP p b m0 m1 m2) ((bestR p).1))))) (fun _ F=>X.move rfl (F.ev 135 (.bool (allowV (eP p b m0 m1 m2) ((bestR p).1))))) ?_;clear F ac;intro ac F
        cases h36 : allowV (eP p b m0 m1 m2) ((bestR p).1) with
        | false =>
         try rw [h36] at F
         refine Y.ps F 9 136 false ?_;clear F ac;intro ac F
         refine Y.ps F 9 136 false ?_;clear F ac;intro ac F
         refine Y.ps F 9 136 false ?_;clear F ac;intro ac F
         refine Y.pv2 F (X.pickF rfl (F.ev 136 (.bool false)) (X.kc (.bool false) rfl)) (fun _ F=>X.move rfl (F.ev 140 (.bool false))) ?_;clear F ac;intro ac F
         refine Y.ps F 14 141 false ?_;clear F ac;intro ac F
         refine Y.pv2 F (X.pickF rfl (F.ev 141 (.bool false)) (X.kc (.bool false) rfl)) (fun _ F=>X.assign rfl (F.ev 143 (.bool false))) ?_;clear F ac;intro ac F
         refine Y.nt F [(6, .bool false)] ?_;clear F ac;intro ac F
         refine Y.ret ?_
         first
          | (exfalso; omega)
          | (exfalso; simp_all)
        | true =>
         try rw [h36] at F
         refine Y.pg F 9 136 true (X.move rfl (F.ev 14 (Vi ((bestR (eP p b m0 m1 m2)).2.1)))) ?_;clear F ac;intro ac F
         refine Y.pg F 9 136 true (X.move rfl (F.ev 11 (Vi ((bestR p).2.1)))) ?_;clear F ac;intro ac F
         refine Y.pg F 9 136 true (X.binop rfl (F.ev 137 (Vi ((bestR (eP p b m0 m1 m2)).2.1))) (F.ev 138 (Vi ((bestR p).2.1))) (X.leqI Try.underlying3 rfl)) ?_;clear F ac;intro ac F
         refine Y.pv2 F (X.pickT rfl (F.ev 136 (.bool true)) (F.ev 139 (.bool (decide (((bestR (eP p b m0 m1 m2)).2.1 : Int) ≤ ((bestR p).2.1)))))) (fun _ F=>X.move rfl (F.ev 140 (.bool (decide (((bestR (eP p b m0 m1 m2)).2.1 : Int) ≤ ((bestR p).2.1)))))) ?_;clear F ac;intro ac F
         cases h37 : decide (((bestR (eP p b m0 m1 m2)).2.1 : Int) ≤ ((bestR p).2.1)) with
         | false =>
          try rw [h37] at F
          have h37p : ¬ (((bestR (eP p b m0 m1 m2)).2.1 : Int) ≤ ((bestR p).2.1)) := of_decide_eq_false h37
          refine Y.ps F 14 141 false ?_;clear F ac;intro ac F
          refine Y.pv2 F (X.pickF rfl (F.ev 141 (.bool false)) (X.kc (.bool false) rfl)) (fun _ F=>X.assign rfl (F.ev 143 (.bool false))) ?_;clear F ac;intro ac F
          refine Y.nt F [(6, .bool false)] ?_;clear F ac;intro ac F
          refine Y.ret ?_
          first
           | (exfalso; omega)
           | (exfalso; simp_all)
         | true =>
          try rw [h37] at F
          have h37p : (((bestR (eP p b m0 m1 m2)).2.1 : Int) ≤ ((bestR p).2.1)) := of_decide_eq_true h37
          refine Y.pcall F (X.w1 rfl (F.yl (j := 14) (d := 141) (b := true) rfl (by kernel_rfl))) rfl (X.enter (F := 16) rfl (X.kc (.func (.func 16) #[] #[]) rfl) rfl (enters_of Try.func16 (by kernel_rfl) rfl _)) (works_any w33) ?_
          clear F ac
          rintro e w38 ⟨rfl, g⟩
          refine ⟨_, rfl, ?_⟩
          intro ac F
          replace G := G.trans g
          replace hC := hC.gr g
          replace hPP := hPP.gr g
          replace hV := hV.gr g
          replace hPq := hPq.gr g
          replace hQ24 := hQ24.gr g
          replace hO24 := hO24.gr g
          replace hI26 := hI26.gr g
          replace hQ28 := hQ28.gr g
          replace hO28 := hO28.gr g
          replace hI30 := hI30.gr g
          clear g
          refine Y.pv2 F (X.pickT rfl (F.ev 141 (.bool true)) (F.ev 142 (.bool true))) (fun _ F=>X.assign rfl (F.ev 143 (.bool true))) ?_;clear F ac;intro ac F
          refine Y.nt F [(6, .bool true)] ?_;clear F ac;intro ac F
          refine Y.ret ?_
          exact Y.ret0 (v := .bool true) F (Y.r1 F) ⟨rfl, G⟩
     | true =>
      try rw [h32] at F
      have h32p : ¬ ((bestR p).2.2 : Int) = 0 := by simpa using h32
      refine Y.condT (F.ev 107 (.bool true)) ?_
      refine Y.sl ?_
      refine Y.pv3 F (X.move rfl (F.ev 12 (Vi ((bestR p).2.2)))) (fun _ F=>X.binop rfl (F.ev 108 (Vi ((bestR p).2.2))) (X.kc (Vi 3) rfl) (X.eqlI Try.underlying31 rfl)) (fun _ F=>X.move rfl (F.ev 109 (.bool (((bestR p).2.2 : Int) == 3)))) ?_;clear F ac;intro ac F
      cases h39 : (((bestR p).2.2 : Int) == 3) with
      | false =>
       try rw [h39] at F
       have h39p : ¬ ((bestR p).2.2 : Int) = 3 := by simpa using h39
       refine Y.ps F 2 110 false ?_;clear F ac;intro ac F
       refine Y.ps F 2 110 false ?_;clear F ac;intro ac F
       refine Y.ps F 2 110 false ?_;clear F ac;intro ac F
       refine Y.pn F 5 113 ?_;clear F ac;intro ac F
       refine Y.pn F 5 113 ?_;clear F ac;intro ac F
       refine Y.ps F 2 110 false ?_;clear F ac;intro ac F
       refine Y.pv2 F (X.pickF rfl (F.ev 110 (.bool false)) (X.kc (.bool false) rfl)) (fun _ F=>X.move rfl (F.ev 117 (.bool false))) ?_;clear F ac;intro ac F
       refine Y.ps F 10 118 false ?_;clear F ac;intro ac F
       refine Y.pv2 F (X.pickF rfl (F.ev 118 (.bool false)) (X.kc (.bool false) rfl)) (fun _ F=>X.assign rfl (F.ev 120 (.bool false))) ?_;clear F ac;intro ac F
       refine Y.nt F [(6, .bool false)] ?_;clear F ac;intro ac F
       refine Y.ret ?_
       refine X.thenR ?_
       first
        | (exfalso; omega)
        | (exfalso; simp_all)
      | true =>
       try rw [h39] at F
       have h39p : ((bestR p).2.2 : Int) = 3 := by simpa using h39
       refine Y.pg F 2 110 true (X.move rfl (F.ev 15 (Vi ((bestR (eP p b m0 m1 m2)).2.2)))) ?_;clear F ac;intro ac F
       refine Y.pg F 2 110 true (X.binop rfl (F.ev 111 (Vi ((bestR (eP p b m0 m1 m2)).2.2))) (X.kc (Vi 0) rfl) (X.eqlI Try.underlying31 rfl)) ?_;clear F ac;intro ac F
       refine Y.pg F 2 110 true (X.move rfl (F.ev 112 (.bool (((bestR (eP p b m0 m1 m2)).2.2 : Int) == 0)))) ?_;clear F ac;intro ac F
       cases h40 : (((bestR (eP p b m0 m1 m2)).2.2 : Int) == 0) with
       | false =>
        try rw [h40] at F
        have h40p : ¬ ((bestR (eP p b m0 m1 m2)).2.2 : Int) = 0 := by simpa using h40
        refine Y.pg F 5 113 false (X.move rfl (F.ev 15 (Vi ((bestR (eP p b m0 m1 m2)).2.2)))) ?_;clear F ac;intro ac F
        refine Y.pg F 5 113 false (X.binop rfl (F.ev 114 (Vi ((bestR (eP p b m0 m1 m2)).2.2))) (X.kc (Vi 3) rfl) (X.eqlI Try.underlying31 rfl)) ?_;clear F ac;intro ac F
        refine Y.pg F 2 110 true (X.pickF rfl (F.ev 113 (.bool false)) (F.ev 115 (.bool (((bestR (eP p b m0 m1 m2)).2.2 : Int) == 3)))) ?_;clear F ac;intro ac F
        refine Y.pv2 F (X.pickT rfl (F.ev 110 (.bool true)) (F.ev 116 (.bool (((bestR (eP p b m0 m1 m2)).2.2 : Int) == 3)))) (fun _ F=>X.move rfl (F.ev 117 (.bool (((bestR (eP p b m0 m1 m2)).2.2 : Int) == 3)))) ?_;clear F ac;intro ac F
        cases h41 : (((bestR (eP p b m0 m1 m2)).2.2 : Int) == 3) with
        | false =>
         try rw [h41] at F
         have h41p : ¬ ((bestR (eP p b m0 m1 m2)).2.2 : Int) = 3 := by simpa using h41
         refine Y.ps F 10 118 false ?_;clear F ac;intro ac F
         refine Y.pv2 F (X.pickF rfl (F.ev 118 (.bool false)) (X.kc (.bool false) rfl)) (fun _ F=>X.assign rfl (F.ev 120 (.bool false))) ?_;clear F ac;intro ac F
         refine Y.nt F [(6, .bool false)] ?_;clear F ac;intro ac F
         refine Y.ret ?_
         refine X.thenR ?_
         first
          | (exfalso; omega)
          | (exfalso; simp_all)
        | true =>
         try rw [h41] at F
         have h41p : ((bestR (eP p b m0 m1 m2)).2.2 : Int) = 3 := by simpa using h41
         refine Y.pcall F (X.w1 rfl (F.yl (j := 10) (d := 118) (b := true) rfl (by kernel_rfl))) rfl (X.enter (F := 16) rfl (X.kc (.func (.func 16) #[] #[]) rfl) rfl (enters_of Try.func16 (by kernel_rfl) rfl _)) (works_any w31) ?_
         clear F ac
         rintro e w42 ⟨rfl, g⟩
         refine ⟨_, rfl, ?_⟩
         intro ac F
         replace G := G.trans g
         replace hC := hC.gr g
         replace hPP := hPP.gr g
         replace hV := hV.gr g
         replace hPq := hPq.gr g
         replace hQ24 := hQ24.gr g
         replace hO24 := hO24.gr g
         replace hI26 := hI26.gr g
         replace hQ28 := hQ28.gr g
         replace hO28 := hO28.gr g
         replace hI30 := hI30.gr g
         clear g
         refine Y.pv2 F (X.pickT rfl (F.ev 118 (.bool true)) (F.ev 119 (.bool true))) (fun _ F=>X.assign rfl (F.ev 120 (.bool true))) ?_;clear F ac;intro ac F
         refine Y.nt F [(6, .bool true)] ?_;clear F ac;intro ac F
         refine Y.ret ?_
         refine X.thenR ?_
         exact Y.ret0 (v := .bool true) F (Y.r1 F) ⟨rfl, G⟩
       | true =>
        try rw [h40] at F
        have h40p : ((bestR (eP p b m0 m1 m2)).2.2 : Int) = 0 := by simpa using h40
        refine Y.ps F 5 113 true ?_;clear F ac;intro ac F
        refine Y.ps F 5 113 true ?_;clear F ac;intro ac F
        refine Y.pg F 2 110 true (X.pickT rfl (F.ev 113 (.bool true)) (X.kc (.bool true) rfl)) ?_;clear F ac;intro ac F
        refine Y.pv2 F (X.pickT rfl (F.ev 110 (.bool true)) (F.ev 116 (.bool true))) (fun _ F=>X.move rfl (F.ev 117 (.bool true))) ?_;clear F ac;intro ac F
        refine Y.pcall F (X.w1 rfl (F.yl (j := 10) (d := 118) (b := true) rfl (by kernel_rfl))) rfl (X.enter (F := 16) rfl (X.kc (.func (.func 16) #[] #[]) rfl) rfl (enters_of Try.func16 (by kernel_rfl) rfl _)) (works_any w31) ?_
        clear F ac
        rintro e w43 ⟨rfl, g⟩
        refine ⟨_, rfl, ?_⟩
        intro ac F
        replace G := G.trans g
        replace hC := hC.gr g
        replace hPP := hPP.gr g
        replace hV := hV.gr g
        replace hPq := hPq.gr g
        replace hQ24 := hQ24.gr g
        replace hO24 := hO24.gr g
        replace hI26 := hI26.gr g
        replace hQ28 := hQ28.gr g
        replace hO28 := hO28.gr g
        replace hI30 := hI30.gr g
        clear g
        refine Y.pv2 F (X.pickT rfl (F.ev 118 (.bool true)) (F.ev 119 (.bool true))) (fun _ F=>X.assign rfl (F.ev 120 (.bool true))) ?_;clear F ac;intro ac F
        refine Y.nt F [(6, .bool true)] ?_;clear F ac;intro ac F
        refine Y.ret ?_
        refine X.thenR ?_
        exact Y.ret0 (v := .bool true) F (Y.r1 F) ⟨rfl, G⟩
    | true =>
     try rw [h23] at F
     have h23p : ((i : Int) < p.nh) := of_decide_eq_true h23
     have hi2 : i < p.nh := by omega
     obtain ⟨g9, rfl, hBg, hgq, hTg⟩ := hE.row (by omega)
     refine Y.condT (F.ev 52 (.bool true)) ?_
     refine Y.skip ?_
     refine X.thenN ?_
     refine Y.seq ?_
     refine Y.block ?_
     refine Y.sg F [(3, Vp w.heap.size), (5, Vp w6.heap.size), (7, Vp w16.heap.size), (8, Vi i), (9, .pointer (some ⟨g9, i * 6, none⟩))] (by
      refine Y.pv F (X.field rfl (F.ev 7 (Vp w16.heap.size)) (X.fld Try.underlying27 rfl (Try.siz23 _) rfl rfl)) fun ac F=>?_
      refine Y.pv F (X.load rfl (F.ev 55 (.pointer (some ⟨w16.heap.size, 1, none⟩))) (X.ld1 (Try.agg23 _) (hC.at 7 rfl))) fun ac F=>?_
      refine Y.pv F (X.move rfl (F.ev 8 (Vi i))) fun ac F=>?_
      refine Y.pv F (X.index rfl (F.ev 56 (.slice (some ⟨g9, 0, none⟩) p.nh hc15)) (F.ev 57 (Vi i)) (X.idx (k := i) Try.underlying23 (Try.siz53 _) (by omega) (by omega) (addr_add0 _ _))) fun ac F=>?_
      refine Y.pv F (X.assign rfl (F.ev 58 (.pointer (some ⟨g9, i * 6, none⟩)))) fun ac F=>?_
      exact Y.fin F) ?_;clear F ac;intro ac F
     refine Y.seq ?_
     replace hC := hC.append (show RCells w22 ([(⟨g9, i * 6 + 1, none⟩, Vi (p.hv i 1))]) from (RCells.cons ((hTg.cell (k := i * 6 + 1) (by omega)).trans (congrArg some ((hk_at (by decide)).trans (if_neg (by omega))))) (RCells.nil _)))
     refine Y.regionS F [some (.pointer (some ⟨g9, i * 6, none⟩)), some (.pointer (some ⟨g9, i * 6, none⟩)), some (.pointer (some ⟨g9, i * 6, none⟩)), some (.pointer (some ⟨g9, i * 6 + 1, none⟩)), some (Vi (p.hv i 1)), some (Vp w6.heap.size), some (Vi m0), some (Vi (min (m0 : Int) (100000 : Int))), some (Vi (max (p.hv i 1 : Int) ((min (m0 : Int) (100000 : Int)) : Int))), some (.pointer (some ⟨g9, i * 6, none⟩)), some (.pointer (some ⟨g9, i * 6 + 1, none⟩)), none] [] 11 (fun _ W => Only (fun x => x = g9) w22 W ∧ OwnP W g9 (p.nh * 6) (hkV p m0 m1 m2 i 1)) rfl ⟨by kernel_rfl, of_decide_eq_true (by kernel_rfl), by kernel_rfl, by kernel_rfl, by kernel_rfl⟩ (of_decide_eq_true (by kernel_rfl)) ⟨?_, ?_, ?_, ?_, ?_, ?_, ?_, ?_, ?_, ?_, ?_, ?_, trivial⟩ ?_
     ·intro ac done u W Sx hT
      have hs := Sx.no 11 (by kernel_rfl)
      have hR := hT.1 hs
      have g : Gr w22 W := hR.1
      exact X.vl (X.move rfl (Sx.ev 9 (.pointer (some ⟨g9, i * 6, none⟩)))) (Y.RT.of hs rfl hR.st0)
     ·intro ac done u W Sx hT
      have hs := Sx.no 11 (by kernel_rfl)
      have hR := hT.1 hs
      have g : Gr w22 W := hR.1
      exact X.vl (X.move rfl (Sx.ev 9 (.pointer (some ⟨g9, i * 6, none⟩)))) (Y.RT.of hs rfl hR.st0)
     ·intro ac done u W Sx hT
      have hs := Sx.no 11 (by kernel_rfl)
      have hR := hT.1 hs
      have g : Gr w22 W := hR.1
      exact X.vl (Y.nilC rfl (Sx.ev 60 (.pointer (some ⟨g9, i * 6, none⟩)))) (Y.RT.of hs rfl hR.st0)
     ·intro ac done u W Sx hT
      have hs := Sx.no 11 (by kernel_rfl)
      have hR := hT.1 hs
      have g : Gr w22 W := hR.1
      exact X.vl (X.field rfl (Sx.ev 61 (.pointer (some ⟨g9, i * 6, none⟩))) (X.fld Try.underlying53 rfl (Try.siz3 _) rfl rfl)) (Y.RT.of hs rfl hR.st0)
     ·intro ac done u W Sx hT
      have hs := Sx.no 11 (by kernel_rfl)
      have hR := hT.1 hs
      have g : Gr w22 W := hR.1
      exact X.vl (X.load rfl (Sx.ev 62 (.pointer (some ⟨g9, i * 6 + 1, none⟩))) (X.ld1 (Try.agg3 _) ((hC.gr g).at 8 rfl))) (Y.RT.of hs rfl hR.st0)
     ·intro ac done u W Sx hT
      have hs := Sx.no 11 (by kernel_rfl)
      have hR := hT.1 hs
      have g : Gr w22 W := hR.1
      exact X.vl (X.index rfl (Sx.ev 5 (Vp w6.heap.size)) (X.kc (Vi 0) rfl) (Y.idxA (k := 0) Try.underlying50 (Try.siz3 _) (by decide) (by omega) (by omega) rfl)) (Y.RT.of hs rfl hR.st0)
     ·intro ac done u W Sx hT
      have hs := Sx.no 11 (by kernel_rfl)
      have hR := hT.1 hs
      have g : Gr w22 W := hR.1
      exact X.vl (X.load rfl (Sx.ev 64 (Vp w6.heap.size)) (X.ld1 (Try.agg3 _) ((hC.gr g).at 4 rfl))) (Y.RT.of hs rfl hR.st0)
     ·intro ac done u W Sx hT
      have hs := Sx.no 11 (by kernel_rfl)
      have hR := hT.1 hs
      have g : Gr w22 W := hR.1
      exact X.vl (Y.min2 rfl (Sx.ev 65 (Vi m0)) (X.kc (Vi 100000) rfl)) (Y.RT.of hs rfl hR.st0)
     ·intro ac done u W Sx hT
      have hs := Sx.no 11 (by kernel_rfl)
      have hR := hT.1 hs
      have g : Gr w22 W := hR.1
      exact X.vl (Y.max2 rfl (Sx.ev 63 (Vi (p.hv i 1))) (Sx.ev 66 (Vi (min (m0 : Int) (100000 : Int))))) (Y.RT.of hs rfl hR.st0)
     ·intro ac done u W Sx hT
      have hs := Sx.no 11 (by kernel_rfl)
      have hR := hT.1 hs
      have g : Gr w22 W := hR.1
      exact X.vl (Y.nilC rfl (Sx.ev 59 (.pointer (some ⟨g9, i * 6, none⟩)))) (Y.RT.of hs rfl hR.st0)
     ·intro ac done u W Sx hT
      have hs := Sx.no 11 (by kernel_rfl)
      have hR := hT.1 hs
      have g : Gr w22 W := hR.1
      exact X.vl (X.field rfl (Sx.ev 68 (.pointer (some ⟨g9, i * 6, none⟩))) (X.fld Try.underlying53 rfl (Try.siz3 _) rfl rfl)) (Y.RT.of hs rfl hR.st0)
     ·intro ac done u W Sx hT
      have hR := hT.1 Sx.nd
      have g : Gr w22 W := hR.1
      have hV2 := ((hTg.gr g).set (k := i * 6 + 1) (Vi (moV p m0 m1 m2 i 1))).congr (val' := hkV p m0 m1 m2 i 1) (fun k _ => hk_set (r := 0) (by decide) k)
      exact X.unit (X.w0 rfl) rfl (X.store rfl (Sx.ev 69 (.pointer (some ⟨g9, i * 6 + 1, none⟩))) (Sx.ev 67 (Vi (max (p.hv i 1 : Int) ((min (m0 : Int) (100000 : Int)) : Int)))) ((hTg.gr g).st1 (Try.siz3 _) rfl rfl (by omega))) (Y.RT.fin ⟨(g.only _).trans (Y.set_only _ _ _ _), hV2⟩)
     rintro ac u w44 hs hd hl_ ho ⟨hon, hV2⟩
     replace F : Fr ac 144 [(3, Vp w.heap.size), (5, Vp w6.heap.size), (7, Vp w16.heap.size), (8, Vi i), (9, .pointer (some ⟨g9, i * 6, none⟩))] := X.fr hs hd hl_ _ (by kernel_rfl)
     clear hs hd hl_ ho
     replace hE := hE.set hon hBg hV2
     replace hTg := hV2
     replace hV := hV.only hon (by show ¬ _ = _; omega)
     replace hoL := hoL.trans (hon.mono' (fun x e => by have e : x = g9 := e; omega))
     have hCR := hC
     clear G hC hV2 hon
     have G : Gr w w44 := ((GL.only (fun b => w.heap.size ≤ b)).trans (hoL.mono' (fun i e => by have e : w13.heap.size ≤ i := e; omega))).gr (fun i hi e => by omega)
     replace hPP := (hP).gr G
     have hC := (RCells.cons (hoL.cell (hCL.at 0 rfl) (fun e => by have e : w13.heap.size ≤ w.heap.size := e; omega)) (RCells.cons (hoL.cell (hCL.at 1 rfl) (fun e => by have e : w13.heap.size ≤ w.heap.size := e; omega)) (RCells.cons (hoL.cell (hCL.at 2 rfl) (fun e => by have e : w13.heap.size ≤ w.heap.size := e; omega)) (RCells.cons (hoL.cell (hCL.at 3 rfl) (fun e => by have e : w13.heap.size ≤ w.heap.size := e; omega)) (RCells.cons (hoL.cell (hCL.at 4 rfl) (fun e => by have e : w13.heap.size ≤ w6.heap.size := e; omega)) (RCells.cons (hoL.cell (hCL.at 5 rfl) (fun e => by have e : w13.heap.size ≤ w6.heap.size := e; omega)) (RCells.cons (hoL.cell (hCL.at 6 rfl) (fun e => by have e : w13.heap.size ≤ w6.heap.size := e; omega)) (RCells.nil _))))))))
     refine X.thenN ?_
     refine Y.seq ?_
     replace hC := hC.append (show RCells w44 ([(⟨g9, i * 6 + 2, none⟩, Vi (p.hv i 2))]) from (RCells.cons ((hTg.cell (k := i * 6 + 2) (by omega)).trans (congrArg some ((hk_at (by decide)).trans (if_neg (by omega))))) (RCells.nil _)))
     refine Y.regionS F [some (.pointer (some ⟨g9, i * 6, none⟩)), some (.pointer (some ⟨g9, i * 6, none⟩)), some (.pointer (some ⟨g9, i * 6, none⟩)), some (.pointer (some ⟨g9, i * 6 + 2, none⟩)), some (Vi (p.hv i 2)), some (.pointer (some ⟨w6.heap.size, 1, none⟩)), some (Vi m1), some (Vi (min (m1 : Int) (100000 : Int))), some (Vi (max (p.hv i 2 : Int) ((min (m1 : Int) (100000 : Int)) : Int))), some (.pointer (some ⟨g9, i * 6, none⟩)), some (.pointer (some ⟨g9, i * 6 + 2, none⟩)), none] [] 11 (fun _ W => Only (fun x => x = g9) w44 W ∧ OwnP W g9 (p.nh * 6) (hkV p m0 m1 m2 i 2)) rfl ⟨by kernel_rfl, of_decide_eq_true (by kernel_rfl), by kernel_rfl, by kernel_rfl, by kernel_rfl⟩ (of_decide_eq_true (by kernel_rfl)) ⟨?_, ?_, ?_, ?_, ?_, ?_, ?_, ?_, ?_, ?_, ?_, ?_, trivial⟩ ?_
     ·intro ac done u W Sx hT
      have hs := Sx.no 11 (by kernel_rfl)
      have hR := hT.1 hs
      have g : Gr w44 W := hR.1
      exact X.vl (X.move rfl (Sx.ev 9 (.pointer (some ⟨g9, i * 6, none⟩)))) (Y.RT.of hs rfl hR.st0)
     ·intro ac done u W Sx hT
      have hs := Sx.no 11 (by kernel_rfl)
      have hR := hT.1 hs
      have g : Gr w44 W := hR.1
      exact X.vl (X.move rfl (Sx.ev 9 (.pointer (some ⟨g9, i * 6, none⟩)))) (Y.RT.of hs rfl hR.st0)
     ·intro ac done u W Sx hT
      have hs := Sx.no 11 (by kernel_rfl)
      have hR := hT.1 hs
      have g : Gr w44 W := hR.1
      exact X.vl (Y.nilC rfl (Sx.ev 71 (.pointer (some ⟨g9, i * 6, none⟩)))) (Y.RT.of hs rfl hR.st0)
     ·intro ac done u W Sx hT
      have hs := Sx.no 11 (by kernel_rfl)
      have hR := hT.1 hs
      have g : Gr w44 W := hR.1
      exact X.vl (X.field rfl (Sx.ev 72 (.pointer (some ⟨g9, i * 6, none⟩))) (X.fld Try.underlying53 rfl (Try.siz3 _) rfl rfl)) (Y.RT.of hs rfl hR.st0)
     ·intro ac done u W Sx hT
      have hs := Sx.no 11 (by kernel_rfl)
      have hR := hT.1 hs
      have g : Gr w44 W := hR.1
      exact X.vl (X.load rfl (Sx.ev 73 (.pointer (some ⟨g9, i * 6 + 2, none⟩))) (X.ld1 (Try.agg3 _) ((hC.gr g).at 7 rfl))) (Y.RT.of hs rfl hR.st0)
     ·intro ac done u W Sx hT
      have hs := Sx.no 11 (by kernel_rfl)
      have hR := hT.1 hs
      have g : Gr w44 W := hR.1
      exact X.vl (X.index rfl (Sx.ev 5 (Vp w6.heap.size)) (X.kc (Vi 1) rfl) (Y.idxA (k := 1) Try.underlying50 (Try.siz3 _) (by decide) (by omega) (by omega) rfl)) (Y.RT.of hs rfl hR.st0)
     ·intro ac done u W Sx hT
      have hs := Sx.no 11 (by kernel_rfl)
      have hR := hT.1 hs
      have g : Gr w44 W := hR.1
      exact X.vl (X.load rfl (Sx.ev 75 (.pointer (some ⟨w6.heap.size, 1, none⟩))) (X.ld1 (Try.agg3 _) ((hC.gr g).at 5 rfl))) (Y.RT.of hs rfl hR.st0)
     ·intro ac done u W Sx hT
      have hs := Sx.no 11 (by kernel_rfl)
      have hR := hT.1 hs
      have g : Gr w44 W := hR.1
      exact X.vl (Y.min2 rfl (Sx.ev 76 (Vi m1)) (X.kc (Vi 100000) rfl)) (Y.RT.of hs rfl hR.st0)
     ·intro ac done u W Sx hT
      have hs := Sx.no 11 (by kernel_rfl)
      have hR := hT.1 hs
      have g : Gr w44 W := hR.1
      exact X.vl (Y.max2 rfl (Sx.ev 74 (Vi (p.hv i 2))) (Sx.ev 77 (Vi (min (m1 : Int) (100000 : Int))))) (Y.RT.of hs rfl hR.st0)
     ·intro ac done u W Sx hT
      have hs := Sx.no 11 (by kernel_rfl)
      have hR := hT.1 hs
      have g : Gr w44 W := hR.1
      exact X.vl (Y.nilC rfl (Sx.ev 70 (.pointer (some ⟨g9, i * 6, none⟩)))) (Y.RT.of hs rfl hR.st0)
     ·intro ac done u W Sx hT
      have hs := Sx.no 11 (by kernel_rfl)
      have hR := hT.1 hs
      have g : Gr w44 W := hR.1
      exact X.vl (X.field rfl (Sx.ev 79 (.pointer (some ⟨g9, i * 6, none⟩))) (X.fld Try.underlying53 rfl (Try.siz3 _) rfl rfl)) (Y.RT.of hs rfl hR.st0)
     ·intro ac done u W Sx hT
      have hR := hT.1 Sx.nd
      have g : Gr w44 W := hR.1
      have hV2 := ((hTg.gr g).set (k := i * 6 + 2) (Vi (moV p m0 m1 m2 i 2))).congr (val' := hkV p m0 m1 m2 i 2) (fun k _ => hk_set (r := 1) (by decide) k)
      exact X.unit (X.w0 rfl) rfl (X.store rfl (Sx.ev 80 (.pointer (some ⟨g9, i * 6 + 2, none⟩))) (Sx.ev 78 (Vi (max (p.hv i 2 : Int) ((min (m1 : Int) (100000 : Int)) : Int)))) ((hTg.gr g).st1 (Try.siz3 _) rfl rfl (by omega))) (Y.RT.fin ⟨(g.only _).trans (Y.set_only _ _ _ _), hV2⟩)
     rintro ac u w45 hs hd hl_ ho ⟨hon, hV2⟩
     replace F : Fr ac 144 [(3, Vp w.heap.size), (5, Vp w6.heap.size), (7, Vp w16.heap.size), (8, Vi i), (9, .pointer (some ⟨g9, i * 6, none⟩))] := X.fr hs hd hl_ _ (by kernel_rfl)
     clear hs hd hl_ ho
     replace hE := hE.set hon hBg hV2
     replace hTg := hV2
     replace hV := hV.only hon (by show ¬ _ = _; omega)
     replace hoL := hoL.trans (hon.mono' (fun x e => by have e : x = g9 := e; omega))
     have hCR := hC
     clear G hC hV2 hon
     have G : Gr w w45 := ((GL.only (fun b => w.heap.size ≤ b)).trans (hoL.mono' (fun i e => by have e : w13.heap.size ≤ i := e; omega))).gr (fun i hi e => by omega)
     replace hPP := (hP).gr G
     have hC := (RCells.cons (hoL.cell (hCL.at 0 rfl) (fun e => by have e : w13.heap.size ≤ w.heap.size := e; omega)) (RCells.cons (hoL.cell (hCL.at 1 rfl) (fun e => by have e : w13.heap.size ≤ w.heap.size := e; omega)) (RCells.cons (hoL.cell (hCL.at 2 rfl) (fun e => by have e : w13.heap.size ≤ w.heap.size := e; omega)) (RCells.cons (hoL.cell (hCL.at 3 rfl) (fun e => by have e : w13.heap.size ≤ w.heap.size := e; omega)) (RCells.cons (hoL.cell (hCL.at 4 rfl) (fun e => by have e : w13.heap.size ≤ w6.heap.size := e; omega)) (RCells.cons (hoL.cell (hCL.at 5 rfl) (fun e => by have e : w13.heap.size ≤ w6.heap.size := e; omega)) (RCells.cons (hoL.cell (hCL.at 6 rfl) (fun e => by have e : w13.heap.size ≤ w6.heap.size := e; omega)) (RCells.nil _))))))))
     refine X.thenN ?_
     replace hC := hC.append (show RCells w45 ([(⟨g9, i * 6 + 3, none⟩, Vi (p.hv i 3))]) from (RCells.cons ((hTg.cell (k := i * 6 + 3) (by omega)).trans (congrArg some ((hk_at (by decide)).trans (if_neg (by omega))))) (RCells.nil _)))
     refine Y.regionS F [some (.pointer (some ⟨g9, i * 6, none⟩)), some (.pointer (some ⟨g9, i * 6, none⟩)), some (.pointer (some ⟨g9, i * 6, none⟩)), some (.pointer (some ⟨g9, i * 6 + 3, none⟩)), some (Vi (p.hv i 3)), some (.pointer (some ⟨w6.heap.size, 2, none⟩)), some (Vi m2), some (Vi (min (m2 : Int) (4 : Int))), some (Vi (max (p.hv i 3 : Int) ((min (m2 : Int) (4 : Int)) : Int))), some (.pointer (some ⟨g9, i * 6, none⟩)), some (.pointer (some ⟨g9, i * 6 + 3, none⟩)), none] [] 11 (fun _ W => Only (fun x => x = g9) w45 W ∧ OwnP W g9 (p.nh * 6) (hkV p m0 m1 m2 i 3)) rfl ⟨by kernel_rfl, of_decide_eq_true (by kernel_rfl), by kernel_rfl, by kernel_rfl, by kernel_rfl⟩ (of_decide_eq_true (by kernel_rfl)) ⟨?_, ?_, ?_, ?_, ?_, ?_, ?_, ?_, ?_, ?_, ?_, ?_, trivial⟩ ?_
     ·intro ac done u W Sx hT
      have hs := Sx.no 11 (by kernel_rfl)
      have hR := hT.1 hs
      have g : Gr w45 W := hR.1
      exact X.vl (X.move rfl (Sx.ev 9 (.pointer (some ⟨g9, i * 6, none⟩)))) (Y.RT.of hs rfl hR.st0)
     ·intro ac done u W Sx hT
      have hs := Sx.no 11 (by kernel_rfl)
      have hR := hT.1 hs
      have g : Gr w45 W := hR.1
      exact X.vl (X.move rfl (Sx.ev 9 (.pointer (some ⟨g9, i * 6, none⟩)))) (Y.RT.of hs rfl hR.st0)
     ·intro ac done u W Sx hT
      have hs := Sx.no 11 (by kernel_rfl)
      have hR := hT.1 hs
      have g : Gr w45 W := hR.1
      exact X.vl (Y.nilC rfl (Sx.ev 82 (.pointer (some ⟨g9, i * 6, none⟩)))) (Y.RT.of hs rfl hR.st0)
     ·intro ac done u W Sx hT
      have hs := Sx.no 11 (by kernel_rfl)
      have hR := hT.1 hs
      have g : Gr w45 W := hR.1
      exact X.vl (X.field rfl (Sx.ev 83 (.pointer (some ⟨g9, i * 6, none⟩))) (X.fld Try.underlying53 rfl (Try.siz3 _) rfl rfl)) (Y.RT.of hs rfl hR.st0)
     ·intro ac done u W Sx hT
      have hs := Sx.no 11 (by kernel_rfl)
      have hR := hT.1 hs
      have g : Gr w45 W := hR.1
      exact X.vl (X.load rfl (Sx.ev 84 (.pointer (some ⟨g9, i * 6 + 3, none⟩))) (X.ld1 (Try.agg3 _) ((hC.gr g).at 7 rfl))) (Y.RT.of hs rfl hR.st0)
     ·intro ac done u W Sx hT
      have hs := Sx.no 11 (by kernel_rfl)
      have hR := hT.1 hs
      have g : Gr w45 W := hR.1
      exact X.vl (X.index rfl (Sx.ev 5 (Vp w6.heap.size)) (X.kc (Vi 2) rfl) (Y.idxA (k := 2) Try.underlying50 (Try.siz3 _) (by decide) (by omega) (by omega) rfl)) (Y.RT.of hs rfl hR.st0)
     ·intro ac done u W Sx hT
      have hs := Sx.no 11 (by kernel_rfl)
      have hR := hT.1 hs
      have g : Gr w45 W := hR.1
      exact X.vl (X.load rfl (Sx.ev 86 (.pointer (some ⟨w6.heap.size, 2, none⟩))) (X.ld1 (Try.agg3 _) ((hC.gr g).at 6 rfl))) (Y.RT.of hs rfl hR.st0)
     ·intro ac done u W Sx hT
      have hs := Sx.no 11 (by kernel_rfl)
      have hR := hT.1 hs
      have g : Gr w45 W := hR.1
      exact X.vl (Y.min2 rfl (Sx.ev 87 (Vi m2)) (X.kc (Vi 4) rfl)) (Y.RT.of hs rfl hR.st0)
     ·intro ac done u W Sx hT
      have hs := Sx.no 11 (by kernel_rfl)
      have hR := hT.1 hs
      have g : Gr w45 W := hR.1
      exact X.vl (Y.max2 rfl (Sx.ev 85 (Vi (p.hv i 3))) (Sx.ev 88 (Vi (min (m2 : Int) (4 : Int))))) (Y.RT.of hs rfl hR.st0)
     ·intro ac done u W Sx hT
      have hs := Sx.no 11 (by kernel_rfl)
      have hR := hT.1 hs
      have g : Gr w45 W := hR.1
      exact X.vl (Y.nilC rfl (Sx.ev 81 (.pointer (some ⟨g9, i * 6, none⟩)))) (Y.RT.of hs rfl hR.st0)
     ·intro ac done u W Sx hT
      have hs := Sx.no 11 (by kernel_rfl)
      have hR := hT.1 hs
      have g : Gr w45 W := hR.1
      exact X.vl (X.field rfl (Sx.ev 90 (.pointer (some ⟨g9, i * 6, none⟩))) (X.fld Try.underlying53 rfl (Try.siz3 _) rfl rfl)) (Y.RT.of hs rfl hR.st0)
     ·intro ac done u W Sx hT
      have hR := hT.1 Sx.nd
      have g : Gr w45 W := hR.1
      have hV2 := ((hTg.gr g).set (k := i * 6 + 3) (Vi (moV p m0 m1 m2 i 3))).congr (val' := hkV p m0 m1 m2 i 3) (fun k _ => hk_set (r := 2) (by decide) k)
      exact X.unit (X.w0 rfl) rfl (X.store rfl (Sx.ev 91 (.pointer (some ⟨g9, i * 6 + 3, none⟩))) (Sx.ev 89 (Vi (max (p.hv i 3 : Int) ((min (m2 : Int) (4 : Int)) : Int)))) ((hTg.gr g).st1 (Try.siz3 _) rfl rfl (by omega))) (Y.RT.fin ⟨(g.only _).trans (Y.set_only _ _ _ _), hV2⟩)
     rintro ac u w46 hs hd hl_ ho ⟨hon, hV2⟩
     replace F : Fr ac 144 [(3, Vp w.heap.size), (5, Vp w6.heap.size), (7, Vp w16.heap.size), (8, Vi i)] := X.fr hs hd hl_ _ (by kernel_rfl)
     clear hs hd hl_ ho
     replace hE := hE.set hon hBg hV2
     replace hTg := hV2
     replace hV := hV.only hon (by show ¬ _ = _; omega)
     replace hoL := hoL.trans (hon.mono' (fun x e => by have e : x = g9 := e; omega))
     have hCR := hC
     clear G hC hV2 hon
     have G : Gr w w46 := ((GL.only (fun b => w.heap.size ≤ b)).trans (hoL.mono' (fun i e => by have e : w13.heap.size ≤ i := e; omega))).gr (fun i hi e => by omega)
     replace hPP := (hP).gr G
     have hC := (RCells.cons (hoL.cell (hCL.at 0 rfl) (fun e => by have e : w13.heap.size ≤ w.heap.size := e; omega)) (RCells.cons (hoL.cell (hCL.at 1 rfl) (fun e => by have e : w13.heap.size ≤ w.heap.size := e; omega)) (RCells.cons (hoL.cell (hCL.at 2 rfl) (fun e => by have e : w13.heap.size ≤ w.heap.size := e; omega)) (RCells.cons (hoL.cell (hCL.at 3 rfl) (fun e => by have e : w13.heap.size ≤ w.heap.size := e; omega)) (RCells.cons (hoL.cell (hCL.at 4 rfl) (fun e => by have e : w13.heap.size ≤ w6.heap.size := e; omega)) (RCells.cons (hoL.cell (hCL.at 5 rfl) (fun e => by have e : w13.heap.size ≤ w6.heap.size := e; omega)) (RCells.cons (hoL.cell (hCL.at 6 rfl) (fun e => by have e : w13.heap.size ≤ w6.heap.size := e; omega)) (RCells.nil _))))))))
     refine X.blockN (X.thenN ?_)
     refine Y.lg F [(3, Vp w.heap.size), (5, Vp w6.heap.size), (7, Vp w16.heap.size), (8, Vi ((i : Int) + 1))] (by
      refine Y.pv F (X.move rfl (F.ev 8 (Vi i))) fun ac F=>?_
      refine Y.pv F (X.binop rfl (F.ev 53 (Vi i)) (X.kc (Vi 1) rfl) (X.addI Try.underlying3 rfl (by omega) (by omega))) fun ac F=>?_
      refine Y.pv F (X.assign rfl (F.ev 54 (Vi ((i : Int) + 1)))) fun ac F=>?_
      exact Y.fin F) ?_;clear F ac;intro ac F
     refine ⟨_, ?_, i + 1, rfl, by omega, hoL, hV, hE.next, F.sub _⟩
     omega
  | true =>
   try rw [h14] at F
   have h14p : ¬ (chkE p : Int) = 0 := by simpa using h14
   refine Y.condT (F.ev 24 (.bool true)) ?_
   refine Y.sl ?_
   refine Y.pcall F (X.w0 rfl) rfl (X.enter (F := 16) rfl (X.kc (.func (.func 16) #[] #[]) rfl) rfl (enters_of Try.func16 (by kernel_rfl) rfl _)) (works_any w13) ?_
   clear F ac
   rintro e w47 ⟨rfl, g⟩
   refine ⟨_, rfl, ?_⟩
   intro ac F
   replace G := G.trans g
   replace hC := hC.gr g
   replace hPP := hPP.gr g
   clear g
   refine Y.pv F (X.assign rfl (F.ev 25 (.bool true))) ?_;clear F ac;intro ac F
   refine Y.nt F [(6, .bool true)] ?_;clear F ac;intro ac F
   refine Y.ret ?_
   refine X.thenR ?_
   exact Y.ret0 (v := .bool true) F (Y.r1 F) ⟨rfl, G⟩
 | true =>
  try rw [h12] at F
  refine Y.ps F 2 20 true ?_;clear F ac;intro ac F
  refine Y.ps F 2 20 true ?_;clear F ac;intro ac F
  refine Y.ps F 2 20 true ?_;clear F ac;intro ac F
  refine Y.pv F (X.pickT rfl (F.ev 20 (.bool true)) (X.kc (.bool true) rfl)) ?_;clear F ac;intro ac F
  refine Y.nt F [(1, Vi b), (3, Vp w.heap.size), (5, Vp w6.heap.size), (24, .bool true)] ?_;clear F ac;intro ac F
  refine Y.condT (F.ev 24 (.bool true)) ?_
  refine Y.sl ?_
  refine Y.pcall F (X.w0 rfl) rfl (X.enter (F := 16) rfl (X.kc (.func (.func 16) #[] #[]) rfl) rfl (enters_of Try.func16 (by kernel_rfl) rfl _)) (works_any w11) ?_
  clear F ac
  rintro e w48 ⟨rfl, g⟩
  refine ⟨_, rfl, ?_⟩
  intro ac F
  replace G := G.trans g
  replace hC := hC.gr g
  replace hPP := hPP.gr g
  clear g
  refine Y.pv F (X.assign rfl (F.ev 25 (.bool true))) ?_;clear F ac;intro ac F
  refine Y.nt F [(6, .bool true)] ?_;clear F ac;intro ac F
  refine Y.ret ?_
  refine X.thenR ?_
  exact Y.ret0 (v := .bool true) F (Y.r1 F) ⟨rfl, G⟩
end
section
open Go.ChangeShapes Go.WideShapes Go.RowKit Go.Deep Go.Joins
section
variable {H : Type} {enc : TypeId × Value → H} {w : World} {base : Nat} {spare : Nat → Bool} {held : Bool}
theorem Try.und50 : Try.prog.underlying 50 = some (.array 3 3) := by kernel_rfl
set_option maxRecDepth 100000 in
theorem open_a3 {r : Reach} {b0 : Nat} {v : Value} {d : DataW H} {p : List MemPlace} (hv : Value.okWide Try.prog w r b0 50 v) (h : DataW.Trod enc Try.prog w base spare held 50 v d p) :
    ∃ m0 m1 m2 : Int, v = .agg #[.int .i64 m0, .int .i64 m1, .int .i64 m2] := by
  simp only [Value.okWide, Try.und50] at hv
  obtain ⟨cs, rfl, hsz, _⟩ := hv
  have h3 : cs.size = 3 := hsz.trans (by kernel_rfl)
  obtain ⟨l⟩ := cs
  match l, h3 with
  | [c0, c1, c2], _ =>
    obtain ⟨fuel, hf⟩ := h
    obtain ⟨y0, y1, y2, n, _, h0, h1, h2⟩ := trod_array3 Try.und50 Try.cells3 (by simpa [Value.cells] using hf)
    obtain ⟨m0, e0, _⟩ := DataW.trod_int Try.underlying3 h0
    obtain ⟨m1, e1, _⟩ := DataW.trod_int Try.underlying3 h1
    obtain ⟨m2, e2, _⟩ := DataW.trod_int Try.underlying3 h2
    injection e0 with e0 _
    injection e1 with e1 _
    injection e2 with e2 _
    exact ⟨m0, m1, m2, by rw [e0, e1, e2]⟩
end
end
end Go.Proofs.Ytodedneanlekdaa
