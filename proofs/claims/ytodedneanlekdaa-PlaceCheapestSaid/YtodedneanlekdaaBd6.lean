/- Several texts of this claim in one file. (1) Contracts: the load of a beginning. (2) Contracts: kept; whether all bonds are. -/
import Derived.Test.YtodedneanlekdaaBd2
import Derived.Test.YtodedneanlekdaaBd3
import Derived.Test.YtodedneanlekdaaBd5
namespace Go.Proofs.Ytodedneanlekdaa
set_option linter.unusedSimpArgs false
set_option linter.unusedVariables false
section
open Go.RowKit

set_option maxRecDepth 100000 in
set_option maxHeartbeats 2000000 in
theorem with_any (l : Nat → Int) (bs : ByteArray) (m1 t1 v1 hh : Int) (w : World) (c : Int) (hc : c ≤ 4000000000) (hl : LdOk l c) (hmt : 0 ≤ m1 ∧ m1 ≤ 1000000 ∧ 0 ≤ t1 ∧ t1 ≤ 200000000) (hx : 0 ≤ hh ∧ hh < 6) :
  Calls Try.prog 104 #[.agg (ldA l).toArray, .agg #[.string bs, Vi m1, Vi t1, Vi v1], Vi hh] w fun e w' => e = .returned (.agg (ldA (withV l m1 t1 hh.toNat)).toArray) ∧ Gr w w' := by
 have G := Gr.refl w
 have h0 := hl ((hh).toNat * 3) (by omega)
 have h1 := hl ((hh).toNat * 3 + 1) (by omega)
 have h2 := hl ((hh).toNat * 3 + 2) (by omega)
 refine Y.calls 33 Try.func104 rfl rfl ?_
 intro ac F0
 have F : Fr ac 33 [(0, .agg (ldA l).toArray), (1, .agg #[.string bs, Vi m1, Vi t1, Vi v1]), (2, Vi hh)] := F0.sub _
 clear F0
 refine Y.sl ?_
 refine Y.pv F (X.box rfl (F.ev 0 (.agg (ldA l).toArray)) X.bx) ?_;clear F ac;intro ac F
 have g := Gr.alloc w (.cells (ldA l).toArray 108)
 have hb := heap_alloc_new w (.cells (ldA l).toArray 108)
 have hszw3 : w.heap.size < (w.alloc (.cells (ldA l).toArray 108)).heap.size := by simp
 have hgsw3 : w.heap.size ≤ w.heap.size := G.size
 generalize w.alloc (.cells (ldA l).toArray 108) = w3 at *
 replace G := G.trans g
 have hVw3 : OwnP w3 w.heap.size 18 (LV l) := ld_own hb
 clear g hb
 have hgs4 : w.heap.size ≤ w3.heap.size := G.size
 refine Y.pv F (X.box rfl (F.ev 1 (.agg #[.string bs, Vi m1, Vi t1, Vi v1])) X.bx) ?_;clear F ac;intro ac F
 have hgs6 : w.heap.size ≤ w3.heap.size := G.size
 obtain ⟨w7, hw_, g, hb, hbl, hC2⟩ := Y.bxd (RCells.nil w3) #[.string bs, Vi m1, Vi t1, Vi v1] 74;rw [hw_];clear hw_
 replace G := G.trans g
 have hC := hC2
 clear hC2
 replace hVw3 := hVw3.gr g
 have hsz5 := hbl
 clear g hb hbl
 refine Y.pv F (Y.al rfl (Try.new108 _)) ?_;clear F ac;intro ac F
 have g := Gr.alloc w7 (.cells #[Vi 0, Vi 0, Vi 0, Vi 0, Vi 0, Vi 0, Vi 0, Vi 0, Vi 0, Vi 0, Vi 0, Vi 0, Vi 0, Vi 0, Vi 0, Vi 0, Vi 0, Vi 0] 108)
 have hb := heap_alloc_new w7 (.cells #[Vi 0, Vi 0, Vi 0, Vi 0, Vi 0, Vi 0, Vi 0, Vi 0, Vi 0, Vi 0, Vi 0, Vi 0, Vi 0, Vi 0, Vi 0, Vi 0, Vi 0, Vi 0] 108)
 have hszw8 : w7.heap.size < (w7.alloc (.cells #[Vi 0, Vi 0, Vi 0, Vi 0, Vi 0, Vi 0, Vi 0, Vi 0, Vi 0, Vi 0, Vi 0, Vi 0, Vi 0, Vi 0, Vi 0, Vi 0, Vi 0, Vi 0] 108)).heap.size := by simp
 have hgsw8 : w.heap.size ≤ w7.heap.size := G.size
 generalize w7.alloc (.cells #[Vi 0, Vi 0, Vi 0, Vi 0, Vi 0, Vi 0, Vi 0, Vi 0, Vi 0, Vi 0, Vi 0, Vi 0, Vi 0, Vi 0, Vi 0, Vi 0, Vi 0, Vi 0] 108) = w8 at *
 replace G := G.trans g
 replace hC := hC.gr g
 replace hVw3 := hVw3.gr g
 have hVw8 : OwnP w8 w7.heap.size 18 (LV (fun _ => 0)) := ld_own (l := fun _ => 0) hb
 clear g hb
 refine Y.nt F [(2, Vi hh), (3, Vp w.heap.size), (4, Vp w3.heap.size), (6, Vp w7.heap.size)] ?_;clear F ac;intro ac F
 refine Y.seq ?_
 replace hC := hC.append (show RCells w8 ([(⟨w.heap.size, ((hh).toNat) * 3, none⟩, Vi (l (((hh).toNat) * 3)))]) from (RCells.cons (by have hq := hVw3.cell (k := ((hh).toNat) * 3) (by omega); rw [show LV l (((hh).toNat) * 3) = Vi (l (((hh).toNat) * 3)) from by simp [LV, upL]] at hq; exact hq) (RCells.nil _)))
 refine Y.regionS F [some (Vi hh), some (.pointer (some ⟨w.heap.size, ((hh).toNat) * 3, none⟩)), some (.pointer (some ⟨w.heap.size, ((hh).toNat) * 3, none⟩)), some (Vi (l (((hh).toNat) * 3))), some (.pointer (some ⟨w3.heap.size, 1, none⟩)), some (Vi m1), some (Vi ((l (((hh).toNat) * 3) : Int) + m1)), some (.pointer (some ⟨w.heap.size, ((hh).toNat) * 3, none⟩)), some (.pointer (some ⟨w.heap.size, ((hh).toNat) * 3, none⟩)), none] [] 9 (fun _ W => Only (fun x => x = w.heap.size) w8 W ∧ OwnP W w.heap.size 18 (LV (upL l (((hh).toNat) * 3) ((l (((hh).toNat) * 3) : Int) + m1 : Int)))) rfl ⟨by kernel_rfl, of_decide_eq_true (by kernel_rfl), by kernel_rfl, by kernel_rfl, by kernel_rfl⟩ (of_decide_eq_true (by kernel_rfl)) ⟨?_, ?_, ?_, ?_, ?_, ?_, ?_, ?_, ?_, ?_, trivial⟩ ?_
 ·intro ac done u W Sx hT
  have hs := Sx.no 9 (by kernel_rfl)
  have hR := hT.1 hs
  exact X.vl (X.move rfl (Sx.ev 2 (Vi hh))) (Y.RT.of hs rfl hR.st0)
 ·intro ac done u W Sx hT
  have hs := Sx.no 9 (by kernel_rfl)
  have hR := hT.1 hs
  exact X.vl (X.index rfl (Sx.ev 3 (Vp w.heap.size)) (Sx.ev 7 (Vi hh)) (Y.idxA (k := (hh).toNat) Try.underlying108 (Try.siz106 _) (by decide) (by omega) (by omega) (addr_add0 _ _))) (Y.RT.of hs rfl hR.st0)
 ·intro ac done u W Sx hT
  have hs := Sx.no 9 (by kernel_rfl)
  have hR := hT.1 hs
  exact X.vl (X.field rfl (Sx.ev 8 (.pointer (some ⟨w.heap.size, ((hh).toNat) * 3, none⟩))) (X.fld Try.underlying106 rfl (Try.siz3 _) rfl rfl)) (Y.RT.of hs rfl hR.st0)
 ·intro ac done u W Sx hT
  have hs := Sx.no 9 (by kernel_rfl)
  have hR := hT.1 hs
  have g : Gr w8 W := hR.1
  exact X.vl (X.load rfl (Sx.ev 9 (.pointer (some ⟨w.heap.size, ((hh).toNat) * 3, none⟩))) (X.ld1 (Try.agg3 _) ((hC.gr g).at 4 rfl))) (Y.RT.of hs rfl hR.st0)
 ·intro ac done u W Sx hT
  have hs := Sx.no 9 (by kernel_rfl)
  have hR := hT.1 hs
  exact X.vl (X.field rfl (Sx.ev 4 (Vp w3.heap.size)) (X.fld Try.underlying74 rfl (Try.siz3 _) rfl rfl)) (Y.RT.of hs rfl hR.st0)
 ·intro ac done u W Sx hT
  have hs := Sx.no 9 (by kernel_rfl)
  have hR := hT.1 hs
  have g : Gr w8 W := hR.1
  exact X.vl (X.load rfl (Sx.ev 11 (.pointer (some ⟨w3.heap.size, 1, none⟩))) (X.ld1 (Try.agg3 _) ((hC.gr g).at 1 rfl))) (Y.RT.of hs rfl hR.st0)
 ·intro ac done u W Sx hT
  have hs := Sx.no 9 (by kernel_rfl)
  have hR := hT.1 hs
  exact X.vl (X.binop rfl (Sx.ev 10 (Vi (l (((hh).toNat) * 3)))) (Sx.ev 12 (Vi m1)) (X.addI Try.underlying3 rfl (by omega) (by omega))) (Y.RT.of hs rfl hR.st0)
 ·intro ac done u W Sx hT
  have hs := Sx.no 9 (by kernel_rfl)
  have hR := hT.1 hs
  exact X.vl (X.index rfl (Sx.ev 3 (Vp w.heap.size)) (Sx.ev 7 (Vi hh)) (Y.idxA (k := (hh).toNat) Try.underlying108 (Try.siz106 _) (by decide) (by omega) (by omega) (addr_add0 _ _))) (Y.RT.of hs rfl hR.st0)
 ·intro ac done u W Sx hT
  have hs := Sx.no 9 (by kernel_rfl)
  have hR := hT.1 hs
  exact X.vl (X.field rfl (Sx.ev 14 (.pointer (some ⟨w.heap.size, ((hh).toNat) * 3, none⟩))) (X.fld Try.underlying106 rfl (Try.siz3 _) rfl rfl)) (Y.RT.of hs rfl hR.st0)
 ·intro ac done u W Sx hT
  have hR := hT.1 Sx.nd
  have g : Gr w8 W := hR.1
  have hV2 := (hVw3.gr g).set (k := ((hh).toNat) * 3) (Vi ((l (((hh).toNat) * 3) : Int) + m1))
  rw [LV_up] at hV2
  exact X.unit (X.w0 rfl) rfl (X.store rfl (Sx.ev 15 (.pointer (some ⟨w.heap.size, ((hh).toNat) * 3, none⟩))) (Sx.ev 13 (Vi ((l (((hh).toNat) * 3) : Int) + m1))) ((hVw3.gr g).st1 (Try.siz3 _) rfl rfl (by omega))) (Y.RT.fin ⟨(g.only _).trans (Y.set_only _ _ _ _), hV2⟩)
 rintro ac u w9 hs hd hl_ ho ⟨hon, hV2⟩
 replace F : Fr ac 33 [(2, Vi hh), (3, Vp w.heap.size), (4, Vp w3.heap.size), (6, Vp w7.heap.size)] := X.fr hs hd hl_ _ (by kernel_rfl)
 clear hs hd hl_ ho
 replace hVw3 := hV2
 clear hV2
 replace G := Y.Only.up G hon (by omega)
 replace hVw8 := hVw8.only hon (by show ¬ _ = _; omega)
 replace hC := (hC.kc hon 0 rfl (hC.kc hon 1 rfl (hC.kc hon 2 rfl (hC.kc hon 3 rfl (RCells.nil _)))))
 clear hon
 refine X.thenN ?_
 refine Y.seq ?_
 replace hC := hC.append (show RCells w9 ([(⟨w.heap.size, ((hh).toNat) * 3 + 1, none⟩, Vi (l (((hh).toNat) * 3 + 1)))]) from (RCells.cons (by have hq := hVw3.cell (k := ((hh).toNat) * 3 + 1) (by omega); rw [show LV (upL l (((hh).toNat) * 3) ((l (((hh).toNat) * 3) : Int) + m1 : Int)) (((hh).toNat) * 3 + 1) = Vi (l (((hh).toNat) * 3 + 1)) from by simp [LV, upL]] at hq; exact hq) (RCells.nil _)))
 refine Y.regionS F [some (Vi hh), some (.pointer (some ⟨w.heap.size, ((hh).toNat) * 3, none⟩)), some (.pointer (some ⟨w.heap.size, ((hh).toNat) * 3 + 1, none⟩)), some (Vi (l (((hh).toNat) * 3 + 1))), some (.pointer (some ⟨w3.heap.size, 2, none⟩)), some (Vi t1), some (Vi ((l (((hh).toNat) * 3 + 1) : Int) + t1)), some (.pointer (some ⟨w.heap.size, ((hh).toNat) * 3, none⟩)), some (.pointer (some ⟨w.heap.size, ((hh).toNat) * 3 + 1, none⟩)), none] [] 9 (fun _ W => Only (fun x => x = w.heap.size) w9 W ∧ OwnP W w.heap.size 18 (LV (upL (upL l (((hh).toNat) * 3) ((l (((hh).toNat) * 3) : Int) + m1 : Int)) (((hh).toNat) * 3 + 1) ((l (((hh).toNat) * 3 + 1) : Int) + t1 : Int)))) rfl ⟨by kernel_rfl, of_decide_eq_true (by kernel_rfl), by kernel_rfl, by kernel_rfl, by kernel_rfl⟩ (of_decide_eq_true (by kernel_rfl)) ⟨?_, ?_, ?_, ?_, ?_, ?_, ?_, ?_, ?_, ?_, trivial⟩ ?_
 ·intro ac done u W Sx hT
  have hs := Sx.no 9 (by kernel_rfl)
  have hR := hT.1 hs
  exact X.vl (X.move rfl (Sx.ev 2 (Vi hh))) (Y.RT.of hs rfl hR.st0)
 ·intro ac done u W Sx hT
  have hs := Sx.no 9 (by kernel_rfl)
  have hR := hT.1 hs
  exact X.vl (X.index rfl (Sx.ev 3 (Vp w.heap.size)) (Sx.ev 16 (Vi hh)) (Y.idxA (k := (hh).toNat) Try.underlying108 (Try.siz106 _) (by decide) (by omega) (by omega) (addr_add0 _ _))) (Y.RT.of hs rfl hR.st0)
 ·intro ac done u W Sx hT
  have hs := Sx.no 9 (by kernel_rfl)
  have hR := hT.1 hs
  exact X.vl (X.field rfl (Sx.ev 17 (.pointer (some ⟨w.heap.size, ((hh).toNat) * 3, none⟩))) (X.fld Try.underlying106 rfl (Try.siz3 _) rfl rfl)) (Y.RT.of hs rfl hR.st0)
 ·intro ac done u W Sx hT
  have hs := Sx.no 9 (by kernel_rfl)
  have hR := hT.1 hs
  have g : Gr w9 W := hR.1
  exact X.vl (X.load rfl (Sx.ev 18 (.pointer (some ⟨w.heap.size, ((hh).toNat) * 3 + 1, none⟩))) (X.ld1 (Try.agg3 _) ((hC.gr g).at 4 rfl))) (Y.RT.of hs rfl hR.st0)
 ·intro ac done u W Sx hT
  have hs := Sx.no 9 (by kernel_rfl)
  have hR := hT.1 hs
  exact X.vl (X.field rfl (Sx.ev 4 (Vp w3.heap.size)) (X.fld Try.underlying74 rfl (Try.siz3 _) rfl rfl)) (Y.RT.of hs rfl hR.st0)
 ·intro ac done u W Sx hT
  have hs := Sx.no 9 (by kernel_rfl)
  have hR := hT.1 hs
  have g : Gr w9 W := hR.1
  exact X.vl (X.load rfl (Sx.ev 20 (.pointer (some ⟨w3.heap.size, 2, none⟩))) (X.ld1 (Try.agg3 _) ((hC.gr g).at 2 rfl))) (Y.RT.of hs rfl hR.st0)
 ·intro ac done u W Sx hT
  have hs := Sx.no 9 (by kernel_rfl)
  have hR := hT.1 hs
  exact X.vl (X.binop rfl (Sx.ev 19 (Vi (l (((hh).toNat) * 3 + 1)))) (Sx.ev 21 (Vi t1)) (X.addI Try.underlying3 rfl (by omega) (by omega))) (Y.RT.of hs rfl hR.st0)
 ·intro ac done u W Sx hT
  have hs := Sx.no 9 (by kernel_rfl)
  have hR := hT.1 hs
  exact X.vl (X.index rfl (Sx.ev 3 (Vp w.heap.size)) (Sx.ev 16 (Vi hh)) (Y.idxA (k := (hh).toNat) Try.underlying108 (Try.siz106 _) (by decide) (by omega) (by omega) (addr_add0 _ _))) (Y.RT.of hs rfl hR.st0)
 ·intro ac done u W Sx hT
  have hs := Sx.no 9 (by kernel_rfl)
  have hR := hT.1 hs
  exact X.vl (X.field rfl (Sx.ev 23 (.pointer (some ⟨w.heap.size, ((hh).toNat) * 3, none⟩))) (X.fld Try.underlying106 rfl (Try.siz3 _) rfl rfl)) (Y.RT.of hs rfl hR.st0)
 ·intro ac done u W Sx hT
  have hR := hT.1 Sx.nd
  have g : Gr w9 W := hR.1
  have hV2 := (hVw3.gr g).set (k := ((hh).toNat) * 3 + 1) (Vi ((l (((hh).toNat) * 3 + 1) : Int) + t1))
  rw [LV_up] at hV2
  exact X.unit (X.w0 rfl) rfl (X.store rfl (Sx.ev 24 (.pointer (some ⟨w.heap.size, ((hh).toNat) * 3 + 1, none⟩))) (Sx.ev 22 (Vi ((l (((hh).toNat) * 3 + 1) : Int) + t1))) ((hVw3.gr g).st1 (Try.siz3 _) rfl rfl (by omega))) (Y.RT.fin ⟨(g.only _).trans (Y.set_only _ _ _ _), hV2⟩)
 rintro ac u w10 hs hd hl_ ho ⟨hon, hV2⟩
 replace F : Fr ac 33 [(2, Vi hh), (3, Vp w.heap.size), (6, Vp w7.heap.size)] := X.fr hs hd hl_ _ (by kernel_rfl)
 clear hs hd hl_ ho
 replace hVw3 := hV2
 clear hV2
 replace G := Y.Only.up G hon (by omega)
 replace hVw8 := hVw8.only hon (by show ¬ _ = _; omega)
 replace hC := (hC.kc hon 0 rfl (hC.kc hon 1 rfl (hC.kc hon 2 rfl (hC.kc hon 3 rfl (RCells.nil _)))))
 clear hon
 refine X.thenN ?_
 refine Y.sl ?_
 refine Y.pv3 F (X.move rfl (F.ev 2 (Vi hh))) (fun _ F=>X.index rfl (F.ev 3 (Vp w.heap.size)) (F.ev 25 (Vi hh)) (Y.idxA (k := (hh).toNat) Try.underlying108 (Try.siz106 _) (by decide) (by omega) (by omega) (addr_add0 _ _))) (fun _ F=>X.field rfl (F.ev 26 (.pointer (some ⟨w.heap.size, ((hh).toNat) * 3, none⟩))) (X.fld Try.underlying106 rfl (Try.siz3 _) rfl rfl)) ?_;clear F ac;intro ac F
 replace hC := hC.append (show RCells w10 ([(⟨w.heap.size, ((hh).toNat) * 3 + 2, none⟩, Vi (l (((hh).toNat) * 3 + 2)))]) from (RCells.cons (by have hq := hVw3.cell (k := ((hh).toNat) * 3 + 2) (by omega); rw [show LV (upL (upL l (((hh).toNat) * 3) ((l (((hh).toNat) * 3) : Int) + m1 : Int)) (((hh).toNat) * 3 + 1) ((l (((hh).toNat) * 3 + 1) : Int) + t1 : Int)) (((hh).toNat) * 3 + 2) = Vi (l (((hh).toNat) * 3 + 2)) from by simp [LV, upL]] at hq; exact hq) (RCells.nil _)))
 refine Y.pv4 F (X.load rfl (F.ev 27 (.pointer (some ⟨w.heap.size, ((hh).toNat) * 3 + 2, none⟩))) (X.ld1 (Try.agg3 _) (hC.at 4 rfl))) (fun _ F=>X.binop rfl (F.ev 28 (Vi (l (((hh).toNat) * 3 + 2)))) (X.kc (Vi 1) rfl) (X.addI Try.underlying3 rfl (by omega) (by omega))) (fun _ F=>X.index rfl (F.ev 3 (Vp w.heap.size)) (F.ev 25 (Vi hh)) (Y.idxA (k := (hh).toNat) Try.underlying108 (Try.siz106 _) (by decide) (by omega) (by omega) (addr_add0 _ _))) (fun _ F=>X.field rfl (F.ev 30 (.pointer (some ⟨w.heap.size, ((hh).toNat) * 3, none⟩))) (X.fld Try.underlying106 rfl (Try.siz3 _) rfl rfl)) fun ac F=>Y.punit F (X.w0 rfl) rfl (X.store rfl (F.ev 31 (.pointer (some ⟨w.heap.size, ((hh).toNat) * 3 + 2, none⟩))) (F.ev 29 (Vi ((l (((hh).toNat) * 3 + 2) : Int) + 1))) (hVw3.st1 (Try.siz3 _) rfl rfl (by omega))) ?_;clear F ac;intro ac F
 have hon := Y.set_only w10 w.heap.size (((hh).toNat) * 3 + 2) (Vi ((l (((hh).toNat) * 3 + 2) : Int) + 1))
 have hV2 := hVw3.set (k := ((hh).toNat) * 3 + 2) (Vi ((l (((hh).toNat) * 3 + 2) : Int) + 1))
 rw [LV_up] at hV2
 generalize w10.setCell ⟨w.heap.size, ((hh).toNat) * 3 + 2, none⟩ (Vi ((l (((hh).toNat) * 3 + 2) : Int) + 1)) = w11 at *
 replace hVw3 : OwnP w11 w.heap.size 18 (LV (upL (upL (upL l (((hh).toNat) * 3) ((l (((hh).toNat) * 3) : Int) + m1 : Int)) (((hh).toNat) * 3 + 1) ((l (((hh).toNat) * 3 + 1) : Int) + t1 : Int)) (((hh).toNat) * 3 + 2) ((l (((hh).toNat) * 3 + 2) : Int) + 1 : Int))) := hV2
 clear hV2
 replace G := Y.Only.up G hon (by omega)
 replace hVw8 := hVw8.only hon (by show ¬ _ = _; omega)
 replace hC := (hC.kc hon 0 rfl (hC.kc hon 1 rfl (hC.kc hon 2 rfl (hC.kc hon 3 rfl (RCells.nil _)))))
 clear hon
 refine Y.nt F [(3, Vp w.heap.size), (6, Vp w7.heap.size)] ?_;clear F ac;intro ac F
 refine Y.sl ?_
 refine Y.pv F (X.load rfl (F.ev 3 (Vp w.heap.size)) (ld_load hVw3 (Try.agg108 _) (Try.siz108 _))) ?_;clear F ac;intro ac F
 obtain ⟨w12, hrun, hV2, hon⟩ := ld_store (P := Try.prog) (l := (upL (upL (upL l (((hh).toNat) * 3) ((l (((hh).toNat) * 3) : Int) + m1 : Int)) (((hh).toNat) * 3 + 1) ((l (((hh).toNat) * 3 + 1) : Int) + t1 : Int)) (((hh).toNat) * 3 + 2) ((l (((hh).toNat) * 3 + 2) : Int) + 1 : Int))) (t := 108) hVw8 (fun W => Try.siz108 W)
 refine Y.punit F (X.w0 rfl) rfl (X.store rfl (F.ev 6 (Vp w7.heap.size)) (F.ev 32 (.agg (ldA (upL (upL (upL l (((hh).toNat) * 3) ((l (((hh).toNat) * 3) : Int) + m1 : Int)) (((hh).toNat) * 3 + 1) ((l (((hh).toNat) * 3 + 1) : Int) + t1 : Int)) (((hh).toNat) * 3 + 2) ((l (((hh).toNat) * 3 + 2) : Int) + 1 : Int))).toArray)) hrun) ?_
 clear F ac hrun
 intro ac F
 replace hVw8 : OwnP w12 w7.heap.size 18 (LV (upL (upL (upL l (((hh).toNat) * 3) ((l (((hh).toNat) * 3) : Int) + m1 : Int)) (((hh).toNat) * 3 + 1) ((l (((hh).toNat) * 3 + 1) : Int) + t1 : Int)) (((hh).toNat) * 3 + 2) ((l (((hh).toNat) * 3 + 2) : Int) + 1 : Int))) := hV2
 clear hV2
 replace G := Y.Only.up G hon (by omega)
 replace hVw3 := hVw3.only hon (by show ¬ _ = _; omega)
 replace hC := (hC.kc hon 0 rfl (hC.kc hon 1 rfl (hC.kc hon 2 rfl (hC.kc hon 3 rfl (RCells.nil _)))))
 clear hon
 refine Y.nt F [(6, Vp w7.heap.size)] ?_;clear F ac;intro ac F
 refine Y.ret ?_
 exact Y.ret0 (v := .agg (ldA (upL (upL (upL l (((hh).toNat) * 3) ((l (((hh).toNat) * 3) : Int) + m1 : Int)) (((hh).toNat) * 3 + 1) ((l (((hh).toNat) * 3 + 1) : Int) + t1 : Int)) (((hh).toNat) * 3 + 2) ((l (((hh).toNat) * 3 + 2) : Int) + 1 : Int))).toArray) F (Y.rcl F rfl (by kernel_rfl) (ld_load hVw8 (Try.agg108 _) (Try.siz108 _))) ⟨rfl, G⟩
set_option maxRecDepth 100000 in
set_option maxHeartbeats 2000000 in
theorem loaded_any (p : Pb) (ta ha ba la : Option Addr) (tc hc bc lc : Nat) (a : Option Addr) (n c : Nat) (xs : List Int) (w : World) (hP : PbAt w p ta ha ba la tc hc bc lc) (hX : Ints w a n xs) (hp : PbOk p) (hn : n ≤ p.nt) (hx : HosOk p xs) :
  Calls Try.prog 73 #[.agg #[.slice ta p.nt tc, .slice ha p.nh hc, .slice ba p.nb bc, .slice la p.nl lc], .slice a n c] w fun e w' => e = .returned (.agg (ldA (ldV p xs xs.length)).toArray) ∧ Gr w w' := by
 have G := Gr.refl w
 have hpt := hP.t
 have hph := hP.h
 have hpb := hP.b
 have hpl := hP.l
 have hplen := hP.len
 obtain ⟨hn1, hn2, hn3, hn4⟩ := hplen
 have hcp1 := hpt.cap
 have hcp2 := hph.cap
 have hcp3 := hpb.cap
 have hcp4 := hpl.cap
 have hxs := hX
 have hlen := hxs.len
 have ht10 := hp.t10
 refine Y.calls 25 Try.func73 rfl rfl ?_
 intro ac F0
 have F : Fr ac 25 [(0, .agg #[.slice ta p.nt tc, .slice ha p.nh hc, .slice ba p.nb bc, .slice la p.nl lc]), (1, .slice a n c)] := F0.sub _
 clear F0
 refine Y.sl ?_
 have hgs3 : w.heap.size ≤ w.heap.size := G.size
 refine Y.pv F (X.box rfl (F.ev 0 (.agg #[.slice ta p.nt tc, .slice ha p.nh hc, .slice ba p.nb bc, .slice la p.nl lc])) X.bx) ?_;clear F ac;intro ac F
 have hgs5 : w.heap.size ≤ w.heap.size := G.size
 obtain ⟨w6, hw_, g, hb, hbl, hC2⟩ := Y.bxd (RCells.nil w) #[.slice ta p.nt tc, .slice ha p.nh hc, .slice ba p.nb bc, .slice la p.nl lc] 27;rw [hw_];clear hw_
 replace G := G.trans g
 have hC := hC2
 clear hC2
 replace hpt := hpt.gr g
 replace hph := hph.gr g
 replace hpb := hpb.gr g
 replace hpl := hpl.gr g
 replace hxs := hxs.gr g
 have hsz4 := hbl
 clear g hb hbl
 refine Y.pv F (Y.al rfl (Try.new108 _)) ?_;clear F ac;intro ac F
 have g := Gr.alloc w6 (.cells #[Vi 0, Vi 0, Vi 0, Vi 0, Vi 0, Vi 0, Vi 0, Vi 0, Vi 0, Vi 0, Vi 0, Vi 0, Vi 0, Vi 0, Vi 0, Vi 0, Vi 0, Vi 0] 108)
 have hb := heap_alloc_new w6 (.cells #[Vi 0, Vi 0, Vi 0, Vi 0, Vi 0, Vi 0, Vi 0, Vi 0, Vi 0, Vi 0, Vi 0, Vi 0, Vi 0, Vi 0, Vi 0, Vi 0, Vi 0, Vi 0] 108)
 have hszw7 : w6.heap.size < (w6.alloc (.cells #[Vi 0, Vi 0, Vi 0, Vi 0, Vi 0, Vi 0, Vi 0, Vi 0, Vi 0, Vi 0, Vi 0, Vi 0, Vi 0, Vi 0, Vi 0, Vi 0, Vi 0, Vi 0] 108)).heap.size := by simp
 have hgsw7 : w.heap.size ≤ w6.heap.size := G.size
 generalize w6.alloc (.cells #[Vi 0, Vi 0, Vi 0, Vi 0, Vi 0, Vi 0, Vi 0, Vi 0, Vi 0, Vi 0, Vi 0, Vi 0, Vi 0, Vi 0, Vi 0, Vi 0, Vi 0, Vi 0] 108) = w7 at *
 replace G := G.trans g
 replace hC := hC.gr g
 replace hpt := hpt.gr g
 replace hph := hph.gr g
 replace hpb := hpb.gr g
 replace hpl := hpl.gr g
 replace hxs := hxs.gr g
 have hVw7 : OwnP w7 w6.heap.size 18 (LV (fun _ => 0)) := ld_own (l := fun _ => 0) hb
 clear g hb
 refine Y.nt F [(1, .slice a n c), (2, Vp w.heap.size), (4, Vp w6.heap.size)] ?_;clear F ac;intro ac F
 refine Y.sl ?_
 refine Y.pv F (Y.al rfl (Try.new108 _)) ?_;clear F ac;intro ac F
 have g := Gr.alloc w7 (.cells #[Vi 0, Vi 0, Vi 0, Vi 0, Vi 0, Vi 0, Vi 0, Vi 0, Vi 0, Vi 0, Vi 0, Vi 0, Vi 0, Vi 0, Vi 0, Vi 0, Vi 0, Vi 0] 108)
 have hb := heap_alloc_new w7 (.cells #[Vi 0, Vi 0, Vi 0, Vi 0, Vi 0, Vi 0, Vi 0, Vi 0, Vi 0, Vi 0, Vi 0, Vi 0, Vi 0, Vi 0, Vi 0, Vi 0, Vi 0, Vi 0] 108)
 have hszw8 : w7.heap.size < (w7.alloc (.cells #[Vi 0, Vi 0, Vi 0, Vi 0, Vi 0, Vi 0, Vi 0, Vi 0, Vi 0, Vi 0, Vi 0, Vi 0, Vi 0, Vi 0, Vi 0, Vi 0, Vi 0, Vi 0] 108)).heap.size := by simp
 have hgsw8 : w.heap.size ≤ w7.heap.size := G.size
 generalize w7.alloc (.cells #[Vi 0, Vi 0, Vi 0, Vi 0, Vi 0, Vi 0, Vi 0, Vi 0, Vi 0, Vi 0, Vi 0, Vi 0, Vi 0, Vi 0, Vi 0, Vi 0, Vi 0, Vi 0] 108) = w8 at *
 replace G := G.trans g
 replace hC := hC.gr g
 replace hpt := hpt.gr g
 replace hph := hph.gr g
 replace hpb := hpb.gr g
 replace hpl := hpl.gr g
 replace hxs := hxs.gr g
 replace hVw7 := hVw7.gr g
 have hVw8 : OwnP w8 w7.heap.size 18 (LV (fun _ => 0)) := ld_own (l := fun _ => 0) hb
 clear g hb
 refine Y.nt F [(1, .slice a n c), (2, Vp w.heap.size), (4, Vp w6.heap.size), (5, Vp w7.heap.size)] ?_;clear F ac;intro ac F
 refine Y.seq ?_
 refine Y.sg F [(2, Vp w.heap.size), (4, Vp w6.heap.size), (5, Vp w7.heap.size), (8, .slice a n c), (9, Vi n), (10, Vi 0)] (Y.pv F (X.move rfl (F.ev 1 (.slice a n c))) fun ac F=>Y.pv F (X.len1 Try.underlying34 rfl (F.ev 8 (.slice a n c))) fun ac F=>Y.pv F (X.move rfl (X.kc (Vi 0) rfl)) fun ac F=>Y.fin F) ?_;clear F ac;intro ac F
 refine Y.block ?_
 refine Y.loop (fun me_ ac wr => ∃ (i : Nat), me_ = n - i ∧ Only (fun b => b = w7.heap.size) w8 wr ∧ OwnP wr w7.heap.size 18 (LV (ldV p xs i)) ∧ i ≤ n ∧ Fr ac 25 [(2, Vp w.heap.size), (4, Vp w6.heap.size), (5, Vp w7.heap.size), (8, .slice a n c), (9, Vi n), (10, Vi i)]) _ ⟨0, rfl, Only.refl _ _, hVw8, Nat.zero_le _, F.sub _⟩ ?_
 have hptB1 := hpt
 have hphB1 := hph
 have hpbB1 := hpb
 have hplB1 := hpl
 have hxsB1 := hxs
 have hVw7B1 := hVw7
 have hVw8B1 := hVw8
 have GB1 := G
 have hCB1 := hC
 clear F ac hVw8
 intro me_ ac w9 hI
 obtain ⟨i, rfl, hO1, hVw8, hi, F⟩ := hI
 replace G : Gr w w9 := ((GB1.only (fun b => w.heap.size ≤ b)).trans (hO1.mono' (fun i e => by omega))).gr (fun i hi e => by omega)
 replace hpt := (hP.t).gr G
 replace hph := (hP.h).gr G
 replace hpb := (hP.b).gr G
 replace hpl := (hP.l).gr G
 replace hxs := (hX).gr G
 replace hVw7 := hVw7B1.only hO1 (by omega)
 replace hC := (RCells.cons (hO1.cell (hCB1.at 0 rfl) (by show ¬ (w.heap.size = w7.heap.size); omega)) (RCells.cons (hO1.cell (hCB1.at 1 rfl) (by show ¬ (w.heap.size = w7.heap.size); omega)) (RCells.cons (hO1.cell (hCB1.at 2 rfl) (by show ¬ (w.heap.size = w7.heap.size); omega)) (RCells.cons (hO1.cell (hCB1.at 3 rfl) (by show ¬ (w.heap.size = w7.heap.size); omega)) (RCells.nil _)))))
 have hlO := hO1
 refine Y.sg F [(2, Vp w.heap.size), (4, Vp w6.heap.size), (5, Vp w7.heap.size), (8, .slice a n c), (9, Vi n), (10, Vi i), (11, .bool (decide ((i : Int) < n)))] (Y.pv F (X.binop rfl (F.ev 10 (Vi i)) (F.ev 9 (Vi n)) (X.lssI Try.underlying3 rfl)) fun ac F=>Y.fin F) ?_;clear F ac;intro ac F
 refine Y.seq ?_
 cases h10 : decide ((i : Int) < n) with
 | false =>
  try rw [h10] at F
  have h10p : ¬ ((i : Int) < n) := of_decide_eq_false h10
  obtain rfl : n = i := by omega
  refine Y.cF F 11 ?_
  refine Y.exit ?_
  refine X.thenX (X.thenX (X.blockX (X.thenN ?_)))
  refine Y.sl ?_
  refine Y.pv F (X.load rfl (F.ev 5 (Vp w7.heap.size)) (ld_load hVw8 (Try.agg108 _) (Try.siz108 _))) ?_;clear F ac;intro ac F
  obtain ⟨w11, hrun, hV2, hon⟩ := ld_store (P := Try.prog) (l := (ldV p xs n)) (t := 108) hVw7 (fun W => Try.siz108 W)
  refine Y.punit F (X.w0 rfl) rfl (X.store rfl (F.ev 4 (Vp w6.heap.size)) (F.ev 24 (.agg (ldA (ldV p xs n)).toArray)) hrun) ?_
  clear F ac hrun
  intro ac F
  replace hVw7 : OwnP w11 w6.heap.size 18 (LV (ldV p xs n)) := hV2
  clear hV2
  replace G := Y.Only.up G hon (by omega)
  replace hpt := (hP.t).gr G
  replace hph := (hP.h).gr G
  replace hpb := (hP.b).gr G
  replace hpl := (hP.l).gr G
  replace hxs := (hX).gr G
  replace hVw8 := hVw8.only hon (by show ¬ _ = _; omega)
  replace hC := (hC.kc hon 0 rfl (hC.kc hon 1 rfl (hC.kc hon 2 rfl (hC.kc hon 3 rfl (RCells.nil _)))))
  clear hon
  refine Y.nt F [(4, Vp w6.heap.size)] ?_;clear F ac;intro ac F
  refine Y.ret ?_
  exact Y.ret0 (v := .agg (ldA (ldV p xs n)).toArray) F (Y.rcl F rfl (by kernel_rfl) (ld_load hVw7 (Try.agg108 _) (Try.siz108 _))) ⟨by rw [hlen], G⟩
 | true =>
  try rw [h10] at F
  have h10p : ((i : Int) < n) := of_decide_eq_true h10
  have hi2 : i < n := by omega
  have hti := hp.tm i (by omega)
  have htt := hp.tt i (by omega)
  have hxi := hx i (by omega)
  have hxg : xs[i]?.getD 0 = xg xs i := rfl
  have h6 := hp.h6
  refine Y.cT F 11 ?_
  refine Y.skip ?_
  refine X.thenN ?_
  refine Y.seq ?_
  refine Y.block ?_
  refine Y.sl ?_
  refine Y.pv F (X.move rfl (F.ev 10 (Vi i))) ?_;clear F ac;intro ac F
  obtain ⟨pd12, pe12, -, pc12⟩ := hxs.at (j := i) (by omega)
  subst pe12
  replace hC := hC.append (show RCells w9 ([(pd12.add i, Vi (xs[i]?.getD 0))]) from (RCells.cons pc12 (RCells.nil _)))
  clear pc12
  refine Y.pval F (X.w0 rfl) rfl (X.index rfl (F.ev 8 (.slice (some pd12) n c)) (F.ev 10 (Vi i)) (X.idx (k := i) Try.underlying34 (Try.siz3 _) (by omega) (by omega) (by rw [Nat.mul_one]))) fun ac F=>Y.pv3 F (X.load rfl (F.ev 13 (.pointer (some (pd12.add i)))) (X.ld1 (Try.agg3 _) (hC.at 4 rfl))) (fun _ F=>X.assign rfl (F.ev 12 (Vi i))) (fun _ F=>X.assign rfl (F.ev 14 (Vi (xs[i]?.getD 0)))) ?_;clear F ac;intro ac F
  refine Y.nt F [(2, Vp w.heap.size), (4, Vp w6.heap.size), (5, Vp w7.heap.size), (6, Vi i), (7, Vi (xs[i]?.getD 0)), (8, .slice (some pd12) n c), (9, Vi n), (10, Vi i)] ?_;clear F ac;intro ac F
  obtain ⟨pd13, pe13, -, pc13⟩ := hpt.at (j := i) (by omega)
  subst pe13
  replace hC := hC.append (show RCells w9 (Y.cs (pd13.add (i * 4)) [.string (p.tn i), Vi (p.tv i 1), Vi (p.tv i 2), Vi (p.tv i 3)]) from (RCells.cons (pc13 0 (by decide)) (RCells.cons (pc13 1 (by decide)) (RCells.cons (pc13 2 (by decide)) (RCells.cons (pc13 3 (by decide)) (RCells.nil _))))))
  clear pc13
  refine Y.regionS F [some (.agg (ldA (ldV p xs i)).toArray), some (Vp w.heap.size), some (.slice (some pd13) p.nt tc), some (Vi i), some (.pointer (some (pd13.add (i * 4)))), some (.agg #[.string (p.tn i), Vi (p.tv i 1), Vi (p.tv i 2), Vi (p.tv i 3)]), some (Vi (xs[i]?.getD 0)), some (.agg (ldA (withV (ldV p xs i) (p.tv i 1) (p.tv i 2) (xs[i]?.getD 0).toNat)).toArray), none] [] 8 (fun _ W => Only (fun x => x = w7.heap.size) w9 W ∧ OwnP W w7.heap.size 18 (LV (withV (ldV p xs i) (p.tv i 1) (p.tv i 2) (xs[i]?.getD 0).toNat))) rfl ⟨by kernel_rfl, of_decide_eq_true (by kernel_rfl), by kernel_rfl, by kernel_rfl, by kernel_rfl⟩ (of_decide_eq_true (by kernel_rfl)) ⟨?_, ?_, ?_, ?_, ?_, ?_, ?_, ?_, ?_, trivial⟩ ?_
  ·intro ac done u W Sx hT
   have hs := Sx.no 8 (by kernel_rfl)
   have hR := hT.1 hs
   have g : Gr w9 W := hR.1
   exact X.vl (X.load rfl (Sx.ev 5 (Vp w7.heap.size)) (ld_load (hVw8.gr g) (Try.agg108 _) (Try.siz108 _))) (Y.RT.of hs rfl hR.st0)
  ·intro ac done u W Sx hT
   have hs := Sx.no 8 (by kernel_rfl)
   have hR := hT.1 hs
   exact X.vl (X.field rfl (Sx.ev 2 (Vp w.heap.size)) (X.fld Try.underlying27 rfl (Try.siz22 _) rfl rfl)) (Y.RT.of hs rfl hR.st0)
  ·intro ac done u W Sx hT
   have hs := Sx.no 8 (by kernel_rfl)
   have hR := hT.1 hs
   have g : Gr w9 W := hR.1
   exact X.vl (X.load rfl (Sx.ev 16 (Vp w.heap.size)) (X.ld1 (Try.agg22 _) ((hC.gr g).at 0 rfl))) (Y.RT.of hs rfl hR.st0)
  ·intro ac done u W Sx hT
   have hs := Sx.no 8 (by kernel_rfl)
   have hR := hT.1 hs
   exact X.vl (X.move rfl (Sx.ev 6 (Vi i))) (Y.RT.of hs rfl hR.st0)
  ·intro ac done u W Sx hT
   have hs := Sx.no 8 (by kernel_rfl)
   have hR := hT.1 hs
   exact X.vl (X.index rfl (Sx.ev 17 (.slice (some pd13) p.nt tc)) (Sx.ev 18 (Vi i)) (X.idx (k := i) Try.underlying22 (Try.siz74 _) (by omega) (by omega) rfl)) (Y.RT.of hs rfl hR.st0)
  ·intro ac done u W Sx hT
   have hs := Sx.no 8 (by kernel_rfl)
   have hR := hT.1 hs
   have g : Gr w9 W := hR.1
   exact X.vl (X.load rfl (Sx.ev 19 (.pointer (some (pd13.add (i * 4))))) (X.ldN (Try.agg74 _) (Try.siz74 _) (Y.atz (pd13.add (i * 4)) (Y.AtFrom.cons ((hC.gr g).at 5 rfl) (Y.AtFrom.cons ((hC.gr g).at 6 rfl) (Y.AtFrom.cons ((hC.gr g).at 7 rfl) (Y.AtFrom.cons ((hC.gr g).at 8 rfl) (Y.AtFrom.nil _ _ _)))))))) (Y.RT.of hs rfl hR.st0)
  ·intro ac done u W Sx hT
   have hs := Sx.no 8 (by kernel_rfl)
   have hR := hT.1 hs
   exact X.vl (X.move rfl (Sx.ev 7 (Vi (xs[i]?.getD 0)))) (Y.RT.of hs rfl hR.st0)
  ·intro ac done u W Sx hT
   have hs := Sx.no 8 (by kernel_rfl)
   have hR := hT.1 hs
   refine X.call (X.w0 rfl) (X.enter (F := 104) rfl (X.kc (.func (.func 104) #[] #[]) rfl) (X.a3 (Sx.ev 15 (.agg (ldA (ldV p xs i)).toArray)) (Sx.ev 20 (.agg #[.string (p.tn i), Vi (p.tv i 1), Vi (p.tv i 2), Vi (p.tv i 3)])) (Sx.ev 21 (Vi (xs[i]?.getD 0)))) (enters_of Try.func104 (by kernel_rfl) rfl _)) (with_any (ldV p xs i) (p.tn i) (p.tv i 1) (p.tv i 2) (p.tv i 3) (xs[i]?.getD 0) W (200000000 * i) (by omega) (ldV_ok hp hx i (by omega) (by omega)) (by omega) (by omega)) ?_
   rintro e W2 ⟨rfl, g2⟩
   exact ⟨_, rfl, X.kn rfl, Y.RT.of hs rfl (hR.step g2 rfl)⟩
  ·intro ac done u W Sx hT
   have hR := hT.1 Sx.nd
   have g : Gr w9 W := hR.1
   obtain ⟨W2, hrun, hV2, hon⟩ := ld_store (P := Try.prog) (l := (withV (ldV p xs i) (p.tv i 1) (p.tv i 2) (xs[i]?.getD 0).toNat)) (t := 108) (hVw8.gr g) (fun W => Try.siz108 W)
   exact X.unit (X.w0 rfl) rfl (X.store rfl (Sx.ev 5 (Vp w7.heap.size)) (Sx.ev 22 (.agg (ldA (withV (ldV p xs i) (p.tv i 1) (p.tv i 2) (xs[i]?.getD 0).toNat)).toArray)) hrun) (Y.RT.fin ⟨(g.only _).trans hon, hV2⟩)
  rintro ac u w14 hs hd hl_ ho ⟨hon, hV2⟩
  replace F : Fr ac 25 [(2, Vp w.heap.size), (4, Vp w6.heap.size), (5, Vp w7.heap.size), (8, .slice (some pd12) n c), (9, Vi n), (10, Vi i)] := X.fr hs hd hl_ _ (by kernel_rfl)
  clear hs hd hl_ ho
  replace hVw8 := hV2
  clear hV2
  replace G := Y.Only.up G hon (by omega)
  replace hpt := (hP.t).gr G
  replace hph := (hP.h).gr G
  replace hpb := (hP.b).gr G
  replace hpl := (hP.l).gr G
  replace hxs := (hX).gr G
  replace hVw7 := hVw7.only hon (by show ¬ _ = _; omega)
  replace hO1 := hO1.step hon (.inl (by simp))
  replace hC := (hC.kc hon 0 rfl (hC.kc hon 1 rfl (hC.kc hon 2 rfl (hC.kc hon 3 rfl (RCells.nil _)))))
  clear hon
  refine X.blockN (X.thenN ?_)
  refine Y.lg F [(2, Vp w.heap.size), (4, Vp w6.heap.size), (5, Vp w7.heap.size), (8, .slice (some pd12) n c), (9, Vi n), (10, Vi ((i : Int) + 1))] (by
   refine Y.pv F (X.binop rfl (F.ev 10 (Vi i)) (X.kc (Vi 1) rfl) (X.addI Try.underlying3 rfl (by omega) (by omega))) fun ac F=>?_
   refine Y.pv F (X.move rfl (F.ev 23 (Vi ((i : Int) + 1)))) fun ac F=>?_
   exact Y.fin F) ?_;clear F ac;intro ac F
  refine ⟨_, ?_, i + 1, rfl, hO1, hVw8, by omega, F.sub _⟩
  omega
end
section
open Go.RowKit

section
variable {p : Pb} {xs : List Int} {j : Nat}
theorem kept_a (h : (xs.length : Int) ≤ p.bv j 1) : keptB p xs j = true := if_pos h
theorem kept_4 (h : ¬ (xs.length : Int) ≤ p.bv j 1) (k : p.bv j 0 = 4) : keptB p xs j = (xs[(p.bv j 1).toNat]?.getD 0 != p.bv j 2) := by
  unfold keptB; rw [if_neg h, if_pos k]; rfl
theorem kept_5 (h : ¬ (xs.length : Int) ≤ p.bv j 1) (k : p.bv j 0 = 5) : keptB p xs j = (xs[(p.bv j 1).toNat]?.getD 0 == p.bv j 2) := by
  unfold keptB; rw [if_neg h, if_neg (by omega), if_pos k]; rfl
theorem kept_b (h : ¬ (xs.length : Int) ≤ p.bv j 1) (k : ¬ p.bv j 0 = 4) (l : ¬ p.bv j 0 = 5) (m : (xs.length : Int) ≤ p.bv j 2) : keptB p xs j = true := by
  unfold keptB; rw [if_neg h, if_neg k, if_neg l, if_pos m]
theorem kept_1 (h : ¬ (xs.length : Int) ≤ p.bv j 1) (m : ¬ (xs.length : Int) ≤ p.bv j 2) (k : p.bv j 0 = 1) : keptB p xs j = (xs[(p.bv j 1).toNat]?.getD 0 != xs[(p.bv j 2).toNat]?.getD 0) := by
  unfold keptB; rw [if_neg h, if_neg (by omega), if_neg (by omega), if_neg m, if_pos k]; rfl
theorem kept_2 (h : ¬ (xs.length : Int) ≤ p.bv j 1) (m : ¬ (xs.length : Int) ≤ p.bv j 2) (k : p.bv j 0 = 2) : keptB p xs j = (xs[(p.bv j 1).toNat]?.getD 0 == xs[(p.bv j 2).toNat]?.getD 0) := by
  unfold keptB; rw [if_neg h, if_neg (by omega), if_neg (by omega), if_neg m, if_neg (by omega), if_pos k]; rfl
theorem kept_3 (h : ¬ (xs.length : Int) ≤ p.bv j 1) (k4 : ¬ p.bv j 0 = 4) (k5 : ¬ p.bv j 0 = 5) (m : ¬ (xs.length : Int) ≤ p.bv j 2) (k1 : ¬ p.bv j 0 = 1) (k2 : ¬ p.bv j 0 = 2) : keptB p xs j = (p.hv (xs[(p.bv j 1).toNat]?.getD 0).toNat 4 != p.hv (xs[(p.bv j 2).toNat]?.getD 0).toNat 4) := by
  unfold keptB; rw [if_neg h, if_neg k4, if_neg k5, if_neg m, if_neg k1, if_neg k2]; rfl
end
set_option maxRecDepth 100000 in
set_option maxHeartbeats 2000000 in
theorem kept_any (p : Pb) (ta ha ba la : Option Addr) (tc hc bc lc : Nat) (a : Option Addr) (c : Nat) (xs : List Int) (w : World) (hP : PbAt w p ta ha ba la tc hc bc lc) (hX : Ints w a xs.length xs) (hp : PbOk p) (hx : HosOk p xs) (j : Nat) (hj : j < p.nb) :
  Calls Try.prog 107 #[.agg #[.slice ta p.nt tc, .slice ha p.nh hc, .slice ba p.nb bc, .slice la p.nl lc], .agg #[Vi (p.bv j 0), Vi (p.bv j 1), Vi (p.bv j 2)], .slice a xs.length c] w fun e w' => e = .returned (.bool (keptB p xs j)) ∧ Gr w w' := by
 have G := Gr.refl w
 have hpt := hP.t
 have hph := hP.h
 have hpb := hP.b
 have hpl := hP.l
 have hplen := hP.len
 obtain ⟨hn1, hn2, hn3, hn4⟩ := hplen
 have hcp1 := hpt.cap
 have hcp2 := hph.cap
 have hcp3 := hpb.cap
 have hcp4 := hpl.cap
 have hxs := hX
 have hlt := hxs.lt
 have hba := hp.ba j hj
 have hbk := hp.bk j hj
 have hbt := hp.bt j hj
 have hbh := hp.bh j hj
 refine Y.calls 68 Try.func107 rfl rfl ?_
 intro ac F0
 have F : Fr ac 68 [(0, .agg #[.slice ta p.nt tc, .slice ha p.nh hc, .slice ba p.nb bc, .slice la p.nl lc]), (1, .agg #[Vi (p.bv j 0), Vi (p.bv j 1), Vi (p.bv j 2)]), (2, .slice a xs.length c)] := F0.sub _
 clear F0
 refine Y.sl ?_
 refine Y.pv F (X.box rfl (F.ev 0 (.agg #[.slice ta p.nt tc, .slice ha p.nh hc, .slice ba p.nb bc, .slice la p.nl lc])) X.bx) ?_;clear F ac;intro ac F
 obtain ⟨w3, hw_, g, hb, hbl, hC2⟩ := Y.bxd (RCells.nil w) #[.slice ta p.nt tc, .slice ha p.nh hc, .slice ba p.nb bc, .slice la p.nl lc] 27;rw [hw_];clear hw_
 replace G := G.trans g
 have hC := hC2
 clear hC2
 replace hpt := hpt.gr g
 replace hph := hph.gr g
 replace hpb := hpb.gr g
 replace hpl := hpl.gr g
 replace hxs := hxs.gr g
 clear g hb hbl
 refine Y.pv F (X.box rfl (F.ev 1 (.agg #[Vi (p.bv j 0), Vi (p.bv j 1), Vi (p.bv j 2)])) X.bx) ?_;clear F ac;intro ac F
 obtain ⟨w4, hw_, g, hb, hbl, hC2⟩ := Y.bxd hC #[Vi (p.bv j 0), Vi (p.bv j 1), Vi (p.bv j 2)] 65;rw [hw_];clear hw_
 replace G := G.trans g
 replace hC := hC2
 clear hC2
 replace hpt := hpt.gr g
 replace hph := hph.gr g
 replace hpb := hpb.gr g
 replace hpl := hpl.gr g
 replace hxs := hxs.gr g
 clear g hb hbl
 refine Y.pv F (X.assign rfl (X.kc (.bool false) rfl)) ?_;clear F ac;intro ac F
 refine Y.nt F [(2, .slice a xs.length c), (3, Vp w.heap.size), (4, Vp w3.heap.size)] ?_;clear F ac;intro ac F
 refine Y.seq ?_
 refine Y.sg F [(2, .slice a xs.length c), (3, Vp w.heap.size), (4, Vp w3.heap.size), (13, .bool (decide ((xs.length : Int) ≤ (p.bv j 1))))] (by
  refine Y.pv F (X.field rfl (F.ev 4 (Vp w3.heap.size)) (X.fld Try.underlying65 rfl (Try.siz3 _) rfl rfl)) fun ac F=>?_
  refine Y.pv F (X.load rfl (F.ev 9 (.pointer (some ⟨w3.heap.size, 1, none⟩))) (X.ld1 (Try.agg3 _) (hC.at 5 rfl))) fun ac F=>?_
  refine Y.pv F (X.move rfl (F.ev 2 (.slice a xs.length c))) fun ac F=>?_
  refine Y.pv F (X.len1 Try.underlying34 rfl (F.ev 11 (.slice a xs.length c))) fun ac F=>?_
  refine Y.pv F (X.binop rfl (F.ev 10 (Vi (p.bv j 1))) (F.ev 12 (Vi xs.length)) (X.geqI Try.underlying3 rfl)) fun ac F=>?_
  exact Y.fin F) ?_;clear F ac;intro ac F
 cases h5 : decide ((xs.length : Int) ≤ (p.bv j 1)) with
 | false =>
  try rw [h5] at F
  have h5p : ¬ ((xs.length : Int) ≤ (p.bv j 1)) := of_decide_eq_false h5
  have hxa := hx (p.bv j 1).toNat (by omega)
  have hea : xs[(p.bv j 1).toNat]?.getD 0 = xg xs (p.bv j 1).toNat := rfl
  refine Y.cF F 13 ?_
  refine Y.skip ?_
  refine X.thenN ?_
  refine Y.sl ?_
  refine Y.pv3 F (X.move rfl (F.ev 2 (.slice a xs.length c))) (fun _ F=>X.field rfl (F.ev 4 (Vp w3.heap.size)) (X.fld Try.underlying65 rfl (Try.siz3 _) rfl rfl)) (fun _ F=>X.load rfl (F.ev 15 (.pointer (some ⟨w3.heap.size, 1, none⟩))) (X.ld1 (Try.agg3 _) (hC.at 5 rfl))) ?_;clear F ac;intro ac F
  obtain ⟨pd6, pe6, -, pc6⟩ := hxs.at (j := (p.bv j 1).toNat) (by omega)
  subst pe6
  replace hC := hC.append (show RCells w4 ([(pd6.add ((p.bv j 1).toNat), Vi (xs[(p.bv j 1).toNat]?.getD 0))]) from (RCells.cons pc6 (RCells.nil _)))
  clear pc6
  refine Y.pval F (X.w0 rfl) rfl (X.index rfl (F.ev 14 (.slice (some pd6) xs.length c)) (F.ev 16 (Vi (p.bv j 1))) (X.idx (k := (p.bv j 1).toNat) Try.underlying34 (Try.siz3 _) (by omega) (by omega) (by rw [Nat.mul_one]))) fun ac F=>Y.pv2 F (X.load rfl (F.ev 17 (.pointer (some (pd6.add ((p.bv j 1).toNat))))) (X.ld1 (Try.agg3 _) (hC.at 7 rfl))) (fun _ F=>X.assign rfl (F.ev 18 (Vi (xs[(p.bv j 1).toNat]?.getD 0)))) ?_;clear F ac;intro ac F
  refine Y.nt F [(2, .slice (some pd6) xs.length c), (3, Vp w.heap.size), (4, Vp w3.heap.size), (7, Vi (xs[(p.bv j 1).toNat]?.getD 0))] ?_;clear F ac;intro ac F
  refine Y.seq ?_
  refine Y.sg F [(2, .slice (some pd6) xs.length c), (3, Vp w.heap.size), (4, Vp w3.heap.size), (7, Vi (xs[(p.bv j 1).toNat]?.getD 0)), (20, Vi (p.bv j 0))] (by
   refine Y.pv F (X.field rfl (F.ev 4 (Vp w3.heap.size)) (X.fld Try.underlying65 rfl (Try.siz3 _) rfl rfl)) fun ac F=>?_
   refine Y.pv F (X.load rfl (F.ev 19 (Vp w3.heap.size)) (X.ld1 (Try.agg3 _) (hC.at 4 rfl))) fun ac F=>?_
   exact Y.fin F) ?_;clear F ac;intro ac F
  refine Y.block ?_
  refine Y.sg F [(2, .slice (some pd6) xs.length c), (3, Vp w.heap.size), (4, Vp w3.heap.size), (7, Vi (xs[(p.bv j 1).toNat]?.getD 0)), (20, Vi (p.bv j 0)), (21, .bool ((p.bv j 0 : Int) == 4))] (Y.pv F (X.binop rfl (F.ev 20 (Vi (p.bv j 0))) (X.kc (Vi 4) rfl) (X.eqlI Try.underlying3 rfl)) fun ac F=>Y.pv F (X.assign rfl (F.ev 22 (.bool ((p.bv j 0 : Int) == 4)))) fun ac F=>Y.fin F) ?_;clear F ac;intro ac F
  cases h7 : ((p.bv j 0 : Int) == 4) with
  | false =>
   try rw [h7] at F
   have h7p : ¬ (p.bv j 0 : Int) = 4 := by simpa using h7
   refine Y.cF F 21 ?_
   refine Y.sg F [(2, .slice (some pd6) xs.length c), (3, Vp w.heap.size), (4, Vp w3.heap.size), (7, Vi (xs[(p.bv j 1).toNat]?.getD 0)), (27, .bool ((p.bv j 0 : Int) == 5))] (Y.pv F (X.binop rfl (F.ev 20 (Vi (p.bv j 0))) (X.kc (Vi 5) rfl) (X.eqlI Try.underlying3 rfl)) fun ac F=>Y.pv F (X.assign rfl (F.ev 28 (.bool ((p.bv j 0 : Int) == 5)))) fun ac F=>Y.fin F) ?_;clear F ac;intro ac F
   cases h8 : ((p.bv j 0 : Int) == 5) with
   | false =>
    try rw [h8] at F
    have h8p : ¬ (p.bv j 0 : Int) = 5 := by simpa using h8
    refine Y.cF F 27 ?_
    refine Y.skip ?_
    refine X.blockN (X.thenN ?_)
    refine Y.seq ?_
    refine Y.sg F [(2, .slice (some pd6) xs.length c), (3, Vp w.heap.size), (4, Vp w3.heap.size), (7, Vi (xs[(p.bv j 1).toNat]?.getD 0)), (37, .bool (decide ((xs.length : Int) ≤ (p.bv j 2))))] (by
     refine Y.pv F (X.field rfl (F.ev 4 (Vp w3.heap.size)) (X.fld Try.underlying65 rfl (Try.siz3 _) rfl rfl)) fun ac F=>?_
     refine Y.pv F (X.load rfl (F.ev 33 (.pointer (some ⟨w3.heap.size, 2, none⟩))) (X.ld1 (Try.agg3 _) (hC.at 6 rfl))) fun ac F=>?_
     refine Y.pv F (X.move rfl (F.ev 2 (.slice (some pd6) xs.length c))) fun ac F=>?_
     refine Y.pv F (X.len1 Try.underlying34 rfl (F.ev 35 (.slice (some pd6) xs.length c))) fun ac F=>?_
     refine Y.pv F (X.binop rfl (F.ev 34 (Vi (p.bv j 2))) (F.ev 36 (Vi xs.length)) (X.geqI Try.underlying3 rfl)) fun ac F=>?_
     exact Y.fin F) ?_;clear F ac;intro ac F
    cases h9 : decide ((xs.length : Int) ≤ (p.bv j 2)) with
    | false =>
     try rw [h9] at F
     have h9p : ¬ ((xs.length : Int) ≤ (p.bv j 2)) := of_decide_eq_false h9
     have hxb := hx (p.bv j 2).toNat (by omega)
     have heb : xs[(p.bv j 2).toNat]?.getD 0 = xg xs (p.bv j 2).toNat := rfl
     have hb0 : p.bv j 0 ≤ 3 := by have := hp.bk j hj; omega
     refine Y.cF F 37 ?_
     refine Y.skip ?_
     refine X.thenN ?_
     refine Y.sl ?_
     refine Y.pv3 F (X.move rfl (F.ev 2 (.slice (some pd6) xs.length c))) (fun _ F=>X.field rfl (F.ev 4 (Vp w3.heap.size)) (X.fld Try.underlying65 rfl (Try.siz3 _) rfl rfl)) (fun _ F=>X.load rfl (F.ev 39 (.pointer (some ⟨w3.heap.size, 2, none⟩))) (X.ld1 (Try.agg3 _) (hC.at 6 rfl))) ?_;clear F ac;intro ac F
     obtain ⟨pd10, pe10, -, pc10⟩ := hxs.at (j := (p.bv j 2).toNat) (by omega)
     injection pe10 with pe10
     subst pe10
     replace hC := hC.append (show RCells w4 ([(pd6.add ((p.bv j 2).toNat), Vi (xs[(p.bv j 2).toNat]?.getD 0))]) from (RCells.cons pc10 (RCells.nil _)))
     clear pc10
     refine Y.pval F (X.w0 rfl) rfl (X.index rfl (F.ev 38 (.slice (some pd6) xs.length c)) (F.ev 40 (Vi (p.bv j 2))) (X.idx (k := (p.bv j 2).toNat) Try.underlying34 (Try.siz3 _) (by omega) (by omega) (by rw [Nat.mul_one]))) fun ac F=>Y.pv2 F (X.load rfl (F.ev 41 (.pointer (some (pd6.add ((p.bv j 2).toNat))))) (X.ld1 (Try.agg3 _) (hC.at 8 rfl))) (fun _ F=>X.assign rfl (F.ev 42 (Vi (xs[(p.bv j 2).toNat]?.getD 0)))) ?_;clear F ac;intro ac F
     refine Y.nt F [(3, Vp w.heap.size), (4, Vp w3.heap.size), (7, Vi (xs[(p.bv j 1).toNat]?.getD 0)), (8, Vi (xs[(p.bv j 2).toNat]?.getD 0))] ?_;clear F ac;intro ac F
     refine Y.seq ?_
     refine Y.sg F [(3, Vp w.heap.size), (7, Vi (xs[(p.bv j 1).toNat]?.getD 0)), (8, Vi (xs[(p.bv j 2).toNat]?.getD 0)), (44, Vi (p.bv j 0))] (by
      refine Y.pv F (X.field rfl (F.ev 4 (Vp w3.heap.size)) (X.fld Try.underlying65 rfl (Try.siz3 _) rfl rfl)) fun ac F=>?_
      refine Y.pv F (X.load rfl (F.ev 43 (Vp w3.heap.size)) (X.ld1 (Try.agg3 _) (hC.at 4 rfl))) fun ac F=>?_
      exact Y.fin F) ?_;clear F ac;intro ac F
     refine Y.block ?_
     refine Y.sg F [(3, Vp w.heap.size), (7, Vi (xs[(p.bv j 1).toNat]?.getD 0)), (8, Vi (xs[(p.bv j 2).toNat]?.getD 0)), (44, Vi (p.bv j 0)), (45, .bool ((p.bv j 0 : Int) == 1))] (Y.pv F (X.binop rfl (F.ev 44 (Vi (p.bv j 0))) (X.kc (Vi 1) rfl) (X.eqlI Try.underlying3 rfl)) fun ac F=>Y.pv F (X.assign rfl (F.ev 46 (.bool ((p.bv j 0 : Int) == 1)))) fun ac F=>Y.fin F) ?_;clear F ac;intro ac F
     cases h11 : ((p.bv j 0 : Int) == 1) with
     | false =>
      try rw [h11] at F
      have h11p : ¬ (p.bv j 0 : Int) = 1 := by simpa using h11
      refine Y.cF F 45 ?_
      refine Y.sg F [(3, Vp w.heap.size), (7, Vi (xs[(p.bv j 1).toNat]?.getD 0)), (8, Vi (xs[(p.bv j 2).toNat]?.getD 0)), (50, .bool ((p.bv j 0 : Int) == 2))] (Y.pv F (X.binop rfl (F.ev 44 (Vi (p.bv j 0))) (X.kc (Vi 2) rfl) (X.eqlI Try.underlying3 rfl)) fun ac F=>Y.pv F (X.assign rfl (F.ev 51 (.bool ((p.bv j 0 : Int) == 2)))) fun ac F=>Y.fin F) ?_;clear F ac;intro ac F
      cases h12 : ((p.bv j 0 : Int) == 2) with
      | false =>
       try rw [h12] at F
       have h12p : ¬ (p.bv j 0 : Int) = 2 := by simpa using h12
       refine Y.cF F 50 ?_
       refine Y.skip ?_
       refine X.blockN (X.thenN ?_)
       refine Y.seq ?_
       obtain ⟨pd13, pe13, -, pc13⟩ := hph.at (j := (xs[(p.bv j 1).toNat]?.getD 0).toNat) (by omega)
       subst pe13
       replace hC := hC.append (show RCells w4 (Y.cs (pd13.add (((xs[(p.bv j 1).toNat]?.getD 0).toNat) * 6)) [.string (p.hn ((xs[(p.bv j 1).toNat]?.getD 0).toNat)), Vi (p.hv ((xs[(p.bv j 1).toNat]?.getD 0).toNat) 1), Vi (p.hv ((xs[(p.bv j 1).toNat]?.getD 0).toNat) 2), Vi (p.hv ((xs[(p.bv j 1).toNat]?.getD 0).toNat) 3), Vi (p.hv ((xs[(p.bv j 1).toNat]?.getD 0).toNat) 4), Vi (p.hv ((xs[(p.bv j 1).toNat]?.getD 0).toNat) 5)]) from (RCells.cons (pc13 0 (by decide)) (RCells.cons (pc13 1 (by decide)) (RCells.cons (pc13 2 (by decide)) (RCells.cons (pc13 3 (by decide)) (RCells.cons (pc13 4 (by decide)) (RCells.cons (pc13 5 (by decide)) (RCells.nil _))))))))
       clear pc13
       obtain ⟨pd14, pe14, -, pc14⟩ := hph.at (j := (xs[(p.bv j 2).toNat]?.getD 0).toNat) (by omega)
       injection pe14 with pe14
       subst pe14
       replace hC := hC.append (show RCells w4 (Y.cs (pd13.add (((xs[(p.bv j 2).toNat]?.getD 0).toNat) * 6)) [.string (p.hn ((xs[(p.bv j 2).toNat]?.getD 0).toNat)), Vi (p.hv ((xs[(p.bv j 2).toNat]?.getD 0).toNat) 1), Vi (p.hv ((xs[(p.bv j 2).toNat]?.getD 0).toNat) 2), Vi (p.hv ((xs[(p.bv j 2).toNat]?.getD 0).toNat) 3), Vi (p.hv ((xs[(p.bv j 2).toNat]?.getD 0).toNat) 4), Vi (p.hv ((xs[(p.bv j 2).toNat]?.getD 0).toNat) 5)]) from (RCells.cons (pc14 0 (by decide)) (RCells.cons (pc14 1 (by decide)) (RCells.cons (pc14 2 (by decide)) (RCells.cons (pc14 3 (by decide)) (RCells.cons (pc14 4 (by decide)) (RCells.cons (pc14 5 (by decide)) (RCells.nil _))))))))
       clear pc14
       refine Y.region F [some (.pointer (some ⟨w.heap.size, 1, none⟩)), some (.slice (some pd13) p.nh hc), some (Vi (xs[(p.bv j 1).toNat]?.getD 0)), some (.pointer (some (pd13.add (((xs[(p.bv j 1).toNat]?.getD 0).toNat) * 6)))), some (.pointer (some (⟨(pd13.add (((xs[(p.bv j 1).toNat]?.getD 0).toNat) * 6)).block, (pd13.add (((xs[(p.bv j 1).toNat]?.getD 0).toNat) * 6)).off + 4, none⟩))), some (Vi (p.hv ((xs[(p.bv j 1).toNat]?.getD 0).toNat) 4)), some (.pointer (some ⟨w.heap.size, 1, none⟩)), some (.slice (some pd13) p.nh hc), some (Vi (xs[(p.bv j 2).toNat]?.getD 0)), some (.pointer (some (pd13.add (((xs[(p.bv j 2).toNat]?.getD 0).toNat) * 6)))), some (.pointer (some (⟨(pd13.add (((xs[(p.bv j 2).toNat]?.getD 0).toNat) * 6)).block, (pd13.add (((xs[(p.bv j 2).toNat]?.getD 0).toNat) * 6)).off + 4, none⟩))), some (Vi (p.hv ((xs[(p.bv j 2).toNat]?.getD 0).toNat) 4)), some (.bool ((p.hv ((xs[(p.bv j 1).toNat]?.getD 0).toNat) 4 : Int) != (p.hv ((xs[(p.bv j 2).toNat]?.getD 0).toNat) 4))), some (.bool ((p.hv ((xs[(p.bv j 1).toNat]?.getD 0).toNat) 4 : Int) != (p.hv ((xs[(p.bv j 2).toNat]?.getD 0).toNat) 4)))] [] rfl ⟨by kernel_rfl, of_decide_eq_true (by kernel_rfl), by kernel_rfl, by kernel_rfl, by kernel_rfl⟩ ⟨?_, ?_, ?_, ?_, ?_, ?_, ?_, ?_, ?_, ?_, ?_, ?_, ?_, ?_, trivial⟩ ?_
       ·intro ac done u W Sx hR
        exact X.vl (X.field rfl (Sx.ev 3 (Vp w.heap.size)) (X.fld Try.underlying27 rfl (Try.siz23 _) rfl rfl)) hR.st0
       ·intro ac done u W Sx hR
        have g : Gr w4 W := hR.1
        exact X.vl (X.load rfl (Sx.ev 55 (.pointer (some ⟨w.heap.size, 1, none⟩))) (X.ld1 (Try.agg23 _) ((hC.gr g).at 1 rfl))) hR.st0
       ·intro ac done u W Sx hR
        exact X.vl (X.move rfl (Sx.ev 7 (Vi (xs[(p.bv j 1).toNat]?.getD 0)))) hR.st0
       ·intro ac done u W Sx hR
        exact X.vl (X.index rfl (Sx.ev 56 (.slice (some pd13) p.nh hc)) (Sx.ev 57 (Vi (xs[(p.bv j 1).toNat]?.getD 0))) (X.idx (k := (xs[(p.bv j 1).toNat]?.getD 0).toNat) Try.underlying23 (Try.siz53 _) (by omega) (by omega) rfl)) hR.st0
       ·intro ac done u W Sx hR
        exact X.vl (X.field rfl (Sx.ev 58 (.pointer (some (pd13.add (((xs[(p.bv j 1).toNat]?.getD 0).toNat) * 6))))) (X.fld Try.underlying53 rfl (Try.siz3 _) rfl rfl)) hR.st0
       ·intro ac done u W Sx hR
        have g : Gr w4 W := hR.1
        exact X.vl (X.load rfl (Sx.ev 59 (.pointer (some (⟨(pd13.add (((xs[(p.bv j 1).toNat]?.getD 0).toNat) * 6)).block, (pd13.add (((xs[(p.bv j 1).toNat]?.getD 0).toNat) * 6)).off + 4, none⟩)))) (X.ld1 (Try.agg3 _) ((hC.gr g).at 13 rfl))) hR.st0
       ·intro ac done u W Sx hR
        exact X.vl (X.field rfl (Sx.ev 3 (Vp w.heap.size)) (X.fld Try.underlying27 rfl (Try.siz23 _) rfl rfl)) hR.st0
       ·intro ac done u W Sx hR
        have g : Gr w4 W := hR.1
        exact X.vl (X.load rfl (Sx.ev 61 (.pointer (some ⟨w.heap.size, 1, none⟩))) (X.ld1 (Try.agg23 _) ((hC.gr g).at 1 rfl))) hR.st0
       ·intro ac done u W Sx hR
        exact X.vl (X.move rfl (Sx.ev 8 (Vi (xs[(p.bv j 2).toNat]?.getD 0)))) hR.st0
       ·intro ac done u W Sx hR
        exact X.vl (X.index rfl (Sx.ev 62 (.slice (some pd13) p.nh hc)) (Sx.ev 63 (Vi (xs[(p.bv j 2).toNat]?.getD 0))) (X.idx (k := (xs[(p.bv j 2).toNat]?.getD 0).toNat) Try.underlying23 (Try.siz53 _) (by omega) (by omega) rfl)) hR.st0
       ·intro ac done u W Sx hR
        exact X.vl (X.field rfl (Sx.ev 64 (.pointer (some (pd13.add (((xs[(p.bv j 2).toNat]?.getD 0).toNat) * 6))))) (X.fld Try.underlying53 rfl (Try.siz3 _) rfl rfl)) hR.st0
       ·intro ac done u W Sx hR
        have g : Gr w4 W := hR.1
        exact X.vl (X.load rfl (Sx.ev 65 (.pointer (some (⟨(pd13.add (((xs[(p.bv j 2).toNat]?.getD 0).toNat) * 6)).block, (pd13.add (((xs[(p.bv j 2).toNat]?.getD 0).toNat) * 6)).off + 4, none⟩)))) (X.ld1 (Try.agg3 _) ((hC.gr g).at 19 rfl))) hR.st0
       ·intro ac done u W Sx hR
        exact X.vl (X.binop rfl (Sx.ev 60 (Vi (p.hv ((xs[(p.bv j 1).toNat]?.getD 0).toNat) 4))) (Sx.ev 66 (Vi (p.hv ((xs[(p.bv j 2).toNat]?.getD 0).toNat) 4))) (X.neqI Try.underlying3 rfl)) hR.st0
       ·intro ac done u W Sx hR
        exact X.vl (X.assign rfl (Sx.ev 67 (.bool ((p.hv ((xs[(p.bv j 1).toNat]?.getD 0).toNat) 4 : Int) != (p.hv ((xs[(p.bv j 2).toNat]?.getD 0).toNat) 4))))) hR.st0
       intro ac u w15 hs hd hl ho hR
       have g : Gr w4 w15 := hR.1
       replace F : Fr ac 68 [(6, .bool ((p.hv ((xs[(p.bv j 1).toNat]?.getD 0).toNat) 4 : Int) != (p.hv ((xs[(p.bv j 2).toNat]?.getD 0).toNat) 4)))] := X.fr hs hd hl _ (by kernel_rfl)
       clear hs hd hl ho hR
       replace G := G.trans g
       replace hC := hC.gr g
       replace hpt := hpt.gr g
       replace hph := hph.gr g
       replace hpb := hpb.gr g
       replace hpl := hpl.gr g
       replace hxs := hxs.gr g
       clear g
       refine X.thenN ?_
       refine Y.ret ?_
       exact Y.ret0 (v := .bool ((p.hv ((xs[(p.bv j 1).toNat]?.getD 0).toNat) 4 : Int) != (p.hv ((xs[(p.bv j 2).toNat]?.getD 0).toNat) 4))) F (Y.r1 F) ⟨by rw [kept_3 (by omega) (by omega) (by omega) (by omega) (by omega) (by omega)], G⟩
      | true =>
       try rw [h12] at F
       have h12p : (p.bv j 0 : Int) = 2 := by simpa using h12
       refine Y.cT F 50 ?_
       refine Y.sg F [(6, .bool ((xs[(p.bv j 1).toNat]?.getD 0 : Int) == (xs[(p.bv j 2).toNat]?.getD 0)))] (Y.pv F (X.move rfl (F.ev 7 (Vi (xs[(p.bv j 1).toNat]?.getD 0)))) fun ac F=>Y.pv F (X.move rfl (F.ev 8 (Vi (xs[(p.bv j 2).toNat]?.getD 0)))) fun ac F=>Y.pv F (X.binop rfl (F.ev 52 (Vi (xs[(p.bv j 1).toNat]?.getD 0))) (F.ev 53 (Vi (xs[(p.bv j 2).toNat]?.getD 0))) (X.eqlI Try.underlying3 rfl)) fun ac F=>Y.pv F (X.assign rfl (F.ev 54 (.bool ((xs[(p.bv j 1).toNat]?.getD 0 : Int) == (xs[(p.bv j 2).toNat]?.getD 0))))) fun ac F=>Y.fin F) ?_;clear F ac;intro ac F
       refine Y.ret ?_
       refine X.blockR (X.thenR ?_)
       exact Y.ret0 (v := .bool ((xs[(p.bv j 1).toNat]?.getD 0 : Int) == (xs[(p.bv j 2).toNat]?.getD 0))) F (Y.r1 F) ⟨by rw [kept_2 (by omega) (by omega) (by omega)], G⟩
     | true =>
      try rw [h11] at F
      have h11p : (p.bv j 0 : Int) = 1 := by simpa using h11
      refine Y.cT F 45 ?_
      refine Y.sg F [(6, .bool ((xs[(p.bv j 1).toNat]?.getD 0 : Int) != (xs[(p.bv j 2).toNat]?.getD 0)))] (Y.pv F (X.move rfl (F.ev 7 (Vi (xs[(p.bv j 1).toNat]?.getD 0)))) fun ac F=>Y.pv F (X.move rfl (F.ev 8 (Vi (xs[(p.bv j 2).toNat]?.getD 0)))) fun ac F=>Y.pv F (X.binop rfl (F.ev 47 (Vi (xs[(p.bv j 1).toNat]?.getD 0))) (F.ev 48 (Vi (xs[(p.bv j 2).toNat]?.getD 0))) (X.neqI Try.underlying3 rfl)) fun ac F=>Y.pv F (X.assign rfl (F.ev 49 (.bool ((xs[(p.bv j 1).toNat]?.getD 0 : Int) != (xs[(p.bv j 2).toNat]?.getD 0))))) fun ac F=>Y.fin F) ?_;clear F ac;intro ac F
      refine Y.ret ?_
      refine X.blockR (X.thenR ?_)
      exact Y.ret0 (v := .bool ((xs[(p.bv j 1).toNat]?.getD 0 : Int) != (xs[(p.bv j 2).toNat]?.getD 0))) F (Y.r1 F) ⟨by rw [kept_1 (by omega) (by omega) (by omega)], G⟩
    | true =>
     try rw [h9] at F
     have h9p : ((xs.length : Int) ≤ (p.bv j 2)) := of_decide_eq_true h9
     refine Y.cT F 37 ?_
     refine Y.sk F 6 (.bool true) ?_;clear F ac;intro ac F
     refine Y.ret ?_
     refine X.thenR ?_
     exact Y.ret0 (v := .bool true) F (Y.r1 F) ⟨by rw [kept_b (by omega) (by omega) (by omega) (by omega)], G⟩
   | true =>
    try rw [h8] at F
    have h8p : (p.bv j 0 : Int) = 5 := by simpa using h8
    refine Y.cT F 27 ?_
    refine Y.sg F [(6, .bool ((xs[(p.bv j 1).toNat]?.getD 0 : Int) == (p.bv j 2)))] (by
     refine Y.pv F (X.move rfl (F.ev 7 (Vi (xs[(p.bv j 1).toNat]?.getD 0)))) fun ac F=>?_
     refine Y.pv F (X.field rfl (F.ev 4 (Vp w3.heap.size)) (X.fld Try.underlying65 rfl (Try.siz3 _) rfl rfl)) fun ac F=>?_
     refine Y.pv F (X.load rfl (F.ev 30 (.pointer (some ⟨w3.heap.size, 2, none⟩))) (X.ld1 (Try.agg3 _) (hC.at 6 rfl))) fun ac F=>?_
     refine Y.pv F (X.binop rfl (F.ev 29 (Vi (xs[(p.bv j 1).toNat]?.getD 0))) (F.ev 31 (Vi (p.bv j 2))) (X.eqlI Try.underlying3 rfl)) fun ac F=>?_
     refine Y.pv F (X.assign rfl (F.ev 32 (.bool ((xs[(p.bv j 1).toNat]?.getD 0 : Int) == (p.bv j 2))))) fun ac F=>?_
     exact Y.fin F) ?_;clear F ac;intro ac F
    refine Y.ret ?_
    refine X.blockR (X.thenR ?_)
    exact Y.ret0 (v := .bool ((xs[(p.bv j 1).toNat]?.getD 0 : Int) == (p.bv j 2))) F (Y.r1 F) ⟨by rw [kept_5 (by omega) (by omega)], G⟩
  | true =>
   try rw [h7] at F
   have h7p : (p.bv j 0 : Int) = 4 := by simpa using h7
   refine Y.cT F 21 ?_
   refine Y.sg F [(6, .bool ((xs[(p.bv j 1).toNat]?.getD 0 : Int) != (p.bv j 2)))] (by
    refine Y.pv F (X.move rfl (F.ev 7 (Vi (xs[(p.bv j 1).toNat]?.getD 0)))) fun ac F=>?_
    refine Y.pv F (X.field rfl (F.ev 4 (Vp w3.heap.size)) (X.fld Try.underlying65 rfl (Try.siz3 _) rfl rfl)) fun ac F=>?_
    refine Y.pv F (X.load rfl (F.ev 24 (.pointer (some ⟨w3.heap.size, 2, none⟩))) (X.ld1 (Try.agg3 _) (hC.at 6 rfl))) fun ac F=>?_
    refine Y.pv F (X.binop rfl (F.ev 23 (Vi (xs[(p.bv j 1).toNat]?.getD 0))) (F.ev 25 (Vi (p.bv j 2))) (X.neqI Try.underlying3 rfl)) fun ac F=>?_
    refine Y.pv F (X.assign rfl (F.ev 26 (.bool ((xs[(p.bv j 1).toNat]?.getD 0 : Int) != (p.bv j 2))))) fun ac F=>?_
    exact Y.fin F) ?_;clear F ac;intro ac F
   refine Y.ret ?_
   refine X.blockR (X.thenR ?_)
   exact Y.ret0 (v := .bool ((xs[(p.bv j 1).toNat]?.getD 0 : Int) != (p.bv j 2))) F (Y.r1 F) ⟨by rw [kept_4 (by omega) (by omega)], G⟩
 | true =>
  try rw [h5] at F
  have h5p : ((xs.length : Int) ≤ (p.bv j 1)) := of_decide_eq_true h5
  refine Y.cT F 13 ?_
  refine Y.sk F 6 (.bool true) ?_;clear F ac;intro ac F
  refine Y.ret ?_
  refine X.thenR ?_
  exact Y.ret0 (v := .bool true) F (Y.r1 F) ⟨by rw [kept_a (by omega)], G⟩
set_option maxRecDepth 100000 in
set_option maxHeartbeats 400000 in
theorem hop1_any (p : Pb) (ta ha ba la : Option Addr) (tc hc bc lc : Nat) (a : Option Addr) (c bp bx : Nat) (xs : List Int) (w : World) (hP : PbAt w p ta ha ba la tc hc bc lc) (hX : Ints w a xs.length xs) (hp : PbOk p) (hx : HosOk p xs) (hq : RCells w [(⟨bp, 0, none⟩, .slice ta p.nt tc), (⟨bp, 1, none⟩, .slice ha p.nh hc), (⟨bp, 2, none⟩, .slice ba p.nb bc), (⟨bp, 3, none⟩, .slice la p.nl lc), (⟨bx, 0, none⟩, .slice a xs.length c)]) (j : Nat) (hj : j < p.nb) :
  Calls Try.prog 106 #[.agg #[Vi (p.bv j 0), Vi (p.bv j 1), Vi (p.bv j 2)], Vp bp, Vp bx] w fun e w' => e = .returned (.bool (!keptB p xs j)) ∧ Gr w w' := by
 have G := Gr.refl w
 have hpt := hP.t
 have hph := hP.h
 have hpb := hP.b
 have hpl := hP.l
 have hplen := hP.len
 obtain ⟨hn1, hn2, hn3, hn4⟩ := hplen
 have hcp1 := hpt.cap
 have hcp2 := hph.cap
 have hcp3 := hpb.cap
 have hcp4 := hpl.cap
 have hxs := hX
 have hlt := hxs.lt
 have hC := hq
 refine Y.calls 10 Try.func106 rfl rfl ?_
 intro ac F0
 have F : Fr ac 10 [(0, .agg #[Vi (p.bv j 0), Vi (p.bv j 1), Vi (p.bv j 2)]), (1, Vp bp), (2, Vp bx)] := F0.sub _
 clear F0
 refine Y.sl ?_
 refine Y.pv F (X.box rfl (F.ev 0 (.agg #[Vi (p.bv j 0), Vi (p.bv j 1), Vi (p.bv j 2)])) X.bx) ?_;clear F ac;intro ac F
 obtain ⟨w3, hw_, g, hb, hbl, hC2⟩ := Y.bxd hC #[Vi (p.bv j 0), Vi (p.bv j 1), Vi (p.bv j 2)] 65;rw [hw_];clear hw_
 replace G := G.trans g
 replace hC := hC2
 clear hC2
 replace hpt := hpt.gr g
 replace hph := hph.gr g
 replace hpb := hpb.gr g
 replace hpl := hpl.gr g
 replace hxs := hxs.gr g
 clear g hb hbl
 refine Y.pv F (X.assign rfl (X.kc (.bool false) rfl)) ?_;clear F ac;intro ac F
 refine Y.nt F [(1, Vp bp), (2, Vp bx), (3, Vp w.heap.size)] ?_;clear F ac;intro ac F
 refine Y.sl ?_
 refine Y.pv3 F (X.load rfl (F.ev 1 (Vp bp)) (X.ldN (Try.agg27 _) (Try.siz27 _) (Y.atz (⟨bp, 0, none⟩) (Y.AtFrom.cons (hC.at 0 rfl) (Y.AtFrom.cons (hC.at 1 rfl) (Y.AtFrom.cons (hC.at 2 rfl) (Y.AtFrom.cons (hC.at 3 rfl) (Y.AtFrom.nil _ _ _)))))))) (fun _ F=>X.load rfl (F.ev 3 (Vp w.heap.size)) (X.ldN (Try.agg65 _) (Try.siz65 _) (Y.atz (⟨w.heap.size, 0, none⟩) (Y.AtFrom.cons (hC.at 5 rfl) (Y.AtFrom.cons (hC.at 6 rfl) (Y.AtFrom.cons (hC.at 7 rfl) (Y.AtFrom.nil _ _ _))))))) (fun _ F=>X.load rfl (F.ev 2 (Vp bx)) (X.ld1 (Try.agg34 _) (hC.at 4 rfl))) fun ac F=>Y.pc F 107 (X.a3 (F.ev 5 (.agg #[.slice ta p.nt tc, .slice ha p.nh hc, .slice ba p.nb bc, .slice la p.nl lc])) (F.ev 6 (.agg #[Vi (p.bv j 0), Vi (p.bv j 1), Vi (p.bv j 2)])) (F.ev 7 (.slice a xs.length c))) Try.func107 (kept_any p ta ha ba la tc hc bc lc a c xs w3 (hP.gr G) (hX.gr G) hp hx j hj) ?_
 clear F ac
 rintro e w4 ⟨rfl, g⟩
 refine ⟨_, rfl, ?_⟩
 intro ac F
 replace G := G.trans g
 replace hC := hC.gr g
 replace hpt := hpt.gr g
 replace hph := hph.gr g
 replace hpb := hpb.gr g
 replace hpl := hpl.gr g
 replace hxs := hxs.gr g
 clear g
 refine Y.pv2 F (X.notB rfl (F.ev 8 (.bool (keptB p xs j))) rfl) (fun _ F=>X.assign rfl (F.ev 9 (.bool (!(keptB p xs j))))) ?_;clear F ac;intro ac F
 refine Y.nt F [(4, .bool (!(keptB p xs j)))] ?_;clear F ac;intro ac F
 refine Y.ret ?_
 exact Y.ret0 (v := .bool (!(keptB p xs j))) F (Y.r1 F) ⟨rfl, G⟩
set_option maxRecDepth 100000 in
set_option maxHeartbeats 400000 in
theorem idx118_any (p : Pb) (ta ha ba la : Option Addr) (tc hc bc lc : Nat) (a : Option Addr) (c bp bx : Nat) (xs : List Int) (w : World) (hP : PbAt w p ta ha ba la tc hc bc lc) (hX : Ints w a xs.length xs) (hp : PbOk p) (hx : HosOk p xs) (hq : RCells w [(⟨bp, 0, none⟩, .slice ta p.nt tc), (⟨bp, 1, none⟩, .slice ha p.nh hc), (⟨bp, 2, none⟩, .slice ba p.nb bc), (⟨bp, 3, none⟩, .slice la p.nl lc), (⟨bx, 0, none⟩, .slice a xs.length c)]) :
  Calls Try.prog 118 #[.slice ba p.nb bc, .func (.func 106) #[] #[Vp bp, Vp bx]] w fun e w' => e = .returned (Vi (firI (fun i => !keptB p xs i) p.nb)) ∧ Gr w w' := by
 have G := Gr.refl w
 have hpt := hP.t
 have hph := hP.h
 have hpb := hP.b
 have hpl := hP.l
 have hplen := hP.len
 obtain ⟨hn1, hn2, hn3, hn4⟩ := hplen
 have hcp1 := hpt.cap
 have hcp2 := hph.cap
 have hcp3 := hpb.cap
 have hcp4 := hpl.cap
 have hxs := hX
 have hlt := hxs.lt
 have hC := hq
 refine Y.calls 19 Try.func118 rfl rfl ?_
 intro ac F0
 have F : Fr ac 19 [(0, .slice ba p.nb bc), (1, .func (.func 106) #[] #[Vp bp, Vp bx])] := F0.sub _
 clear F0
 refine Y.sg F [(0, .slice ba p.nb bc), (1, .func (.func 106) #[] #[Vp bp, Vp bx])] (Y.pv F (X.assign rfl (X.kc (Vi 0) rfl)) fun ac F=>Y.fin F) ?_;clear F ac;intro ac F
 refine Y.seq ?_
 refine Y.sg F [(0, .slice ba p.nb bc), (1, .func (.func 106) #[] #[Vp bp, Vp bx]), (7, Vi p.nb), (8, Vi 0)] (Y.pv F (X.move rfl (F.ev 0 (.slice ba p.nb bc))) fun ac F=>Y.pv F (X.len1 Try.underlying24 rfl (F.ev 6 (.slice ba p.nb bc))) fun ac F=>Y.pv F (X.move rfl (X.kc (Vi 0) rfl)) fun ac F=>Y.fin F) ?_;clear F ac;intro ac F
 refine Y.block ?_
 have hptB := hpt
 have hphB := hph
 have hpbB := hpb
 have hplB := hpl
 have hxsB := hxs
 have hCB := hC
 have GB := G
 refine Y.loop (fun me_ ac wr => ∃ (i : Nat), me_ = p.nb - i ∧ Gr w wr ∧ i ≤ p.nb ∧ allN (fun i => !(!keptB p xs i)) i = true ∧ Fr ac 19 [(0, .slice ba p.nb bc), (1, .func (.func 106) #[] #[Vp bp, Vp bx]), (7, Vi p.nb), (8, Vi i)]) _ ⟨0, rfl, Gr.refl _, Nat.zero_le _, rfl, F.sub _⟩ ?_
 clear F
 intro me_ ac w3 hI
 obtain ⟨i, rfl, gr, hi0, hok, F⟩ := hI
 replace G := GB.trans gr
 replace hC := hCB.gr gr
 replace hpt := hptB.gr gr
 replace hph := hphB.gr gr
 replace hpb := hpbB.gr gr
 replace hpl := hplB.gr gr
 replace hxs := hxsB.gr gr
 have GB_ := gr
 clear gr
 refine Y.sg F [(0, .slice ba p.nb bc), (1, .func (.func 106) #[] #[Vp bp, Vp bx]), (7, Vi p.nb), (8, Vi i), (9, .bool (decide ((i : Int) < p.nb)))] (Y.pv F (X.binop rfl (F.ev 8 (Vi i)) (F.ev 7 (Vi p.nb)) (X.lssI Try.underlying3 rfl)) fun ac F=>Y.fin F) ?_;clear F ac;intro ac F
 refine Y.seq ?_
 cases h4 : decide ((i : Int) < p.nb) with
 | false =>
  try rw [h4] at F
  have h4p : ¬ ((i : Int) < p.nb) := of_decide_eq_false h4
  obtain rfl : i = p.nb := by omega
  refine Y.cF F 9 ?_
  refine Y.exit ?_
  refine X.thenX (X.thenX (X.blockX (X.thenN ?_)))
  refine Y.sg F [(4, Vi (-1))] (Y.pv F (X.assign rfl (X.kc (Vi (-1)) rfl)) fun ac F=>Y.fin F) ?_;clear F ac;intro ac F
  refine Y.ret ?_
  exact Y.ret0 (v := Vi (-1)) F (Y.r1 F) ⟨ret_int ((firI_none hok).symm), G⟩
 | true =>
  try rw [h4] at F
  have h4p : ((i : Int) < p.nb) := of_decide_eq_true h4
  have hi : i < p.nb := by omega
  refine Y.cT F 9 ?_
  refine Y.skip ?_
  refine X.thenN ?_
  refine Y.seq ?_
  refine Y.block ?_
  refine Y.sg F [(0, .slice ba p.nb bc), (1, .func (.func 106) #[] #[Vp bp, Vp bx]), (5, Vi i), (7, Vi p.nb), (8, Vi i)] (Y.pv F (X.move rfl (F.ev 8 (Vi i))) fun ac F=>Y.pv F (X.assign rfl (F.ev 10 (Vi i))) fun ac F=>Y.fin F) ?_;clear F ac;intro ac F
  refine Y.sl ?_
  refine Y.pv3 F (X.move rfl (F.ev 1 (.func (.func 106) #[] #[Vp bp, Vp bx]))) (fun _ F=>X.move rfl (F.ev 0 (.slice ba p.nb bc))) (fun _ F=>X.move rfl (F.ev 5 (Vi i))) ?_;clear F ac;intro ac F
  obtain ⟨pd5, pe5, -, pc5⟩ := hpb.at (j := i) (by omega)
  subst pe5
  replace hC := hC.append (show RCells w3 (Y.cs (pd5.add (i * 3)) [Vi (p.bv i 0), Vi (p.bv i 1), Vi (p.bv i 2)]) from (RCells.cons (pc5 0 (by decide)) (RCells.cons (pc5 1 (by decide)) (RCells.cons (pc5 2 (by decide)) (RCells.nil _)))))
  clear pc5
  refine Y.pv2 F (X.index rfl (F.ev 12 (.slice (some pd5) p.nb bc)) (F.ev 13 (Vi i)) (X.idx (k := i) Try.underlying24 (Try.siz65 _) (by omega) (by omega) rfl)) (fun _ F=>X.load rfl (F.ev 14 (.pointer (some (pd5.add (i * 3))))) (X.ldN (Try.agg65 _) (Try.siz65 _) (Y.atz (pd5.add (i * 3)) (Y.AtFrom.cons (hC.at 5 rfl) (Y.AtFrom.cons (hC.at 6 rfl) (Y.AtFrom.cons (hC.at 7 rfl) (Y.AtFrom.nil _ _ _))))))) ?_;clear F ac;intro ac F
  refine Y.pcall F (X.w0 rfl) rfl (X.enter (F := 106) rfl (F.ev 11 (.func (.func 106) #[] #[Vp bp, Vp bx])) (X.a1 (F.ev 15 (.agg #[Vi (p.bv i 0), Vi (p.bv i 1), Vi (p.bv i 2)]))) (enters_of Try.func106 (by kernel_rfl) rfl _)) (hop1_any p ta ha (some pd5) la tc hc bc lc a c bp bx xs w3 (hP.gr G) (hX.gr G) hp hx (hq.gr G) i (by omega)) ?_
  clear F ac
  rintro e w6 ⟨rfl, g⟩
  refine ⟨_, rfl, ?_⟩
  intro ac F
  replace G := G.trans g
  replace hC := hC.gr g
  replace GB_ := GB_.trans g
  replace hpt := hpt.gr g
  replace hph := hph.gr g
  replace hpb := hpb.gr g
  replace hpl := hpl.gr g
  replace hxs := hxs.gr g
  clear g
  refine Y.nt F [(0, .slice (some pd5) p.nb bc), (1, .func (.func 106) #[] #[Vp bp, Vp bx]), (5, Vi i), (7, Vi p.nb), (8, Vi i), (16, .bool (!keptB p xs i))] ?_;clear F ac;intro ac F
  cases h7 : keptB p xs i with
  | false =>
   try rw [h7] at F
   refine Y.cT F 16 ?_
   refine Y.sg F [(4, Vi i)] (Y.pv F (X.move rfl (F.ev 5 (Vi i))) fun ac F=>Y.pv F (X.assign rfl (F.ev 17 (Vi i))) fun ac F=>Y.fin F) ?_;clear F ac;intro ac F
   refine Y.ret ?_
   refine X.blockR (X.thenR (X.thenR (X.blockR (X.thenR ?_))))
   exact Y.ret0 (v := Vi i) F (Y.r1 F) ⟨ret_int ((firI_some (f := fun i => !keptB p xs i) hi hok (by simp [h7])).symm), G⟩
  | true =>
   try rw [h7] at F
   refine Y.cF F 16 ?_
   refine Y.skip ?_
   refine X.blockN (X.thenN ?_)
   refine Y.lg F [(0, .slice (some pd5) p.nb bc), (1, .func (.func 106) #[] #[Vp bp, Vp bx]), (7, Vi p.nb), (8, Vi ((i : Int) + 1))] (by
    refine Y.pv F (X.binop rfl (F.ev 8 (Vi i)) (X.kc (Vi 1) rfl) (X.addI Try.underlying3 rfl (by omega) (by omega))) fun ac F=>?_
    refine Y.pv F (X.move rfl (F.ev 18 (Vi ((i : Int) + 1)))) fun ac F=>?_
    exact Y.fin F) ?_;clear F ac;intro ac F
   refine ⟨_, ?_, i + 1, rfl, GB_, by omega, allN_succ hok (by simp [h7]), F.sub _⟩
   omega
set_option maxRecDepth 100000 in
set_option maxHeartbeats 400000 in
theorem con105_any (p : Pb) (ta ha ba la : Option Addr) (tc hc bc lc : Nat) (a : Option Addr) (c bp bx : Nat) (xs : List Int) (w : World) (hP : PbAt w p ta ha ba la tc hc bc lc) (hX : Ints w a xs.length xs) (hp : PbOk p) (hx : HosOk p xs) (hq : RCells w [(⟨bp, 0, none⟩, .slice ta p.nt tc), (⟨bp, 1, none⟩, .slice ha p.nh hc), (⟨bp, 2, none⟩, .slice ba p.nb bc), (⟨bp, 3, none⟩, .slice la p.nl lc), (⟨bx, 0, none⟩, .slice a xs.length c)]) :
  Calls Try.prog 105 #[.slice ba p.nb bc, .func (.func 106) #[] #[Vp bp, Vp bx]] w fun e w' => e = .returned (.bool (!allN (keptB p xs) p.nb)) ∧ Gr w w' := by
 have G := Gr.refl w
 have hpt := hP.t
 have hph := hP.h
 have hpb := hP.b
 have hpl := hP.l
 have hplen := hP.len
 obtain ⟨hn1, hn2, hn3, hn4⟩ := hplen
 have hcp1 := hpt.cap
 have hcp2 := hph.cap
 have hcp3 := hpb.cap
 have hcp4 := hpl.cap
 have hxs := hX
 have hlt := hxs.lt
 have hC := hq
 refine Y.calls 9 Try.func105 rfl rfl ?_
 intro ac F0
 have F : Fr ac 9 [(0, .slice ba p.nb bc), (1, .func (.func 106) #[] #[Vp bp, Vp bx])] := F0.sub _
 clear F0
 refine Y.sg F [(0, .slice ba p.nb bc), (1, .func (.func 106) #[] #[Vp bp, Vp bx])] (Y.pv F (X.assign rfl (X.kc (.bool false) rfl)) fun ac F=>Y.fin F) ?_;clear F ac;intro ac F
 refine Y.sl ?_
 refine Y.pv2 F (X.move rfl (F.ev 0 (.slice ba p.nb bc))) (fun _ F=>X.move rfl (F.ev 1 (.func (.func 106) #[] #[Vp bp, Vp bx]))) fun ac F=>Y.pc F 118 (X.a2 (F.ev 5 (.slice ba p.nb bc)) (F.ev 6 (.func (.func 106) #[] #[Vp bp, Vp bx]))) Try.func118 (idx118_any p ta ha ba la tc hc bc lc a c bp bx xs w (hP.gr G) (hX.gr G) hp hx (hq.gr G)) ?_
 clear F ac
 rintro e w3 ⟨rfl, g⟩
 refine ⟨_, rfl, ?_⟩
 intro ac F
 replace G := G.trans g
 replace hC := hC.gr g
 replace hpt := hpt.gr g
 replace hph := hph.gr g
 replace hpb := hpb.gr g
 replace hpl := hpl.gr g
 replace hxs := hxs.gr g
 clear g
 refine Y.pv2 F (X.binop rfl (F.ev 7 (Vi (firI (fun i => !keptB p xs i) p.nb))) (X.kc (Vi 0) rfl) (X.geqI Try.underlying3 rfl)) (fun _ F=>X.assign rfl (F.ev 8 (.bool (decide ((0 : Int) ≤ (firI (fun i => !keptB p xs i) p.nb)))))) ?_;clear F ac;intro ac F
 refine Y.nt F [(4, .bool (decide ((0 : Int) ≤ (firI (fun i => !keptB p xs i) p.nb))))] ?_;clear F ac;intro ac F
 refine Y.ret ?_
 exact Y.ret0 (v := .bool (decide ((0 : Int) ≤ (firI (fun i => !keptB p xs i) p.nb)))) F (Y.r1 F) ⟨by rw [firI_any (f := fun i => !keptB p xs i), not_notB], G⟩
end
end Go.Proofs.Ytodedneanlekdaa
