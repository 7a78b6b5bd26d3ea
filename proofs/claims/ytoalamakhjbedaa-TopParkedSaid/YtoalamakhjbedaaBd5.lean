/- Several texts of this claim in one file. (1) Contract: best. (2) Contract: newParked. -/
import Derived.Test.YtoalamakhjbedaaBd4
namespace Go.Proofs.Ytoalamakhjbedaa
set_option linter.unusedSimpArgs false
set_option linter.unusedVariables false
section
open Go.RowKit

/-- what the map holds -/
def gfV (p : Nd) (t x : Int) : Value := .agg #[.int .i64 (bestV p t x).1, .int .i64 (bestV p t x).2]
def gdV (p : Nd) : Int → Int → Value → Prop := fun t x v => v = gfV p t x

set_option maxRecDepth 100000 in
set_option maxHeartbeats 2000000 in
theorem best_step (bq bm : Nat) (gq : Int) (p : Nd) (t x : Int) (w : World) (hq : Pq w bq gq p.aw p.za p.bu p.re p.hold p.T bm) (h : NdOk p) (ht : 0 ≤ t ∧ t ≤ 10000) (hx : 0 ≤ x ∧ x ≤ 100000) (hxb : x ≤ p.bu) (hbm : ¬ bq = bm) (hM : Memo w bm (gdV p)) (ih : t < p.T → ∀ (t' x' : Int) (w : World), t < t' → (0 ≤ t' ∧ t' ≤ 10000) → (0 ≤ x' ∧ x' ≤ p.bu) → Pq w bq gq p.aw p.za p.bu p.re p.hold p.T bm → Memo w bm (gdV p) → Calls Try.prog 48 #[.pointer (some ⟨bq, 0, none⟩), .agg #[.int .i64 t', .int .i64 x']] w (fun e w' => e = .returned (.agg #[.int .i64 (bestV p t' x').1, .int .i64 (bestV p t' x').2]) ∧ Only (fun b => b = bm) w w' ∧ Memo w' bm (gdV p))) :
  Calls Try.prog 48 #[Vp bq, .agg #[Vi t, Vi x]] w fun e w' => e = .returned (.agg #[Vi (bestV p t x).1, Vi (bestV p t x).2]) ∧ Only (fun b => b = bm) w w' ∧ Memo w' bm (gdV p) := by
 have G := Gr.refl w
 have hC : RCells w (PqC bq gq p.aw p.za p.bu p.re p.hold p.T bm) := hq
 have hbq := hq.lt
 have ha0 := h.a0
 have ha1 := h.a1
 have ha2 := h.a2
 have hb0 := h.b0
 have hb1 := h.b1
 have hr0 := h.r0
 have hr1 := h.r1
 have hh0 := h.h0
 have hh1 := h.h1
 have ht0_ := h.t0
 have ht1_ := h.t1
 have hE := Only.refl (fun b => b = bm) w
 have hsm : SmallS t x := ⟨by omega, by omega, by omega, by omega⟩
 have hmlt0 := hM.lt
 have hbq0 := hq.lt
 refine Y.calls 68 Try.func48 rfl rfl ?_
 intro ac F0
 have F : Fr ac 68 [(0, Vp bq), (1, .agg #[Vi t, Vi x])] := F0.sub _
 clear F0
 refine Y.seq ?_
 refine Y.lit (by kernel_rfl) ?_
 refine Y.pv F (X.box rfl (F.e 1 rfl) X.bx) ?_;clear F ac;intro ac F
 have hq3 : bq < w.heap.size := lt_cell (hC.at 0 rfl)
 have hq4 : bm < w.heap.size := hM.lt
 have g := Gr.alloc w (.cells #[Vi t, Vi x] 72)
 have hb := heap_alloc_new w (.cells #[Vi t, Vi x] 72)
 have hbl : w.heap.size < (w.alloc (.cells #[Vi t, Vi x] 72)).heap.size := by simp
 have hC2 : RCells (w.alloc (.cells #[Vi t, Vi x] 72)) [(Ad bq 0, Vi gq), (Ad bq 1, Vi p.aw), (Ad bq 2, Vi p.za), (Ad bq 3, Vi p.bu), (Ad bq 4, Vi p.re), (Ad bq 5, Vi p.hold), (Ad bq 6, Vi p.T), (Ad bq 7, .map (some bm)), (Ad w.heap.size 0, Vi t), (Ad w.heap.size 1, Vi x)] := hC.box (b := w.heap.size) #[Vi t, Vi x] 72 rfl
 generalize w.alloc (.cells #[Vi t, Vi x] 72) = w5 at *
 replace G := G.trans g
 replace hC := hC2
 clear hC2
 replace hE := hE.thenGr g
 replace hq := hq.gr g
 replace hM := hM.gr g
 clear g hb hbl
 refine Y.pv F (Y.al rfl (Try.new69 _)) ?_;clear F ac;intro ac F
 have hgshV6 := G.size
 have hq7 : bq < w5.heap.size := lt_cell (hC.at 0 rfl)
 have hq8 : w.heap.size < w5.heap.size := lt_cell (hC.at 8 rfl)
 have hq9 : bm < w5.heap.size := hM.lt
 have g := Gr.alloc w5 (.cells #[Vi 0, Vi 0] 69)
 have hb := heap_alloc_new w5 (.cells #[Vi 0, Vi 0] 69)
 have hbl : w5.heap.size < (w5.alloc (.cells #[Vi 0, Vi 0] 69)).heap.size := by simp
 generalize w5.alloc (.cells #[Vi 0, Vi 0] 69) = w10 at *
 replace G := G.trans g
 replace hC := hC.gr g
 replace hE := hE.thenGr g
 replace hq := hq.gr g
 replace hM := hM.gr g
 have hV6 := ownP_2 hb
 clear g hb hbl
 refine Y.nil ?_
 replace F : Fr ac 68 [(0, Vp bq), (1, .agg #[Vi t, Vi x]), (3, Vp w.heap.size), (4, Vp w5.heap.size)] := F.sub _
 refine X.thenN ?_
 refine Y.seq ?_
 refine Y.seq ?_
 refine Y.region F [some (Vp w.heap.size), some (Vi t), some (Vp bq), some (Vp bq), some (.pointer (some ⟨bq, 6, none⟩)), some (Vi p.T), some (.bool (decide ((p.T : Int) ≤ t)))] [] rfl ⟨by kernel_rfl, of_decide_eq_true (by kernel_rfl), by kernel_rfl, by kernel_rfl, by kernel_rfl⟩ ⟨?_, ?_, ?_, ?_, ?_, ?_, ?_, trivial⟩ ?_
 ·intro ac done u W Sx hR
  exact X.vl (X.field rfl (Sx.ev 3 (Vp w.heap.size)) (X.fld Try.underlying72 rfl (Try.siz3 _) rfl rfl)) hR.st0
 ·intro ac done u W Sx hR
  have g : Gr w10 W := hR.1
  exact X.vl (X.load rfl (Sx.ev 14 (Vp w.heap.size)) (X.ld1 (Try.agg3 _) ((hC.gr g).at 8 rfl))) hR.st0
 ·intro ac done u W Sx hR
  exact X.vl (X.move rfl (Sx.ev 0 (Vp bq))) hR.st0
 ·intro ac done u W Sx hR
  exact X.vl (Y.nilC rfl (Sx.ev 16 (Vp bq))) hR.st0
 ·intro ac done u W Sx hR
  exact X.vl (X.field rfl (Sx.ev 17 (Vp bq)) (X.fld Try.underlying110 rfl (Try.siz3 _) rfl rfl)) hR.st0
 ·intro ac done u W Sx hR
  have g : Gr w10 W := hR.1
  exact X.vl (X.load rfl (Sx.ev 18 (.pointer (some ⟨bq, 6, none⟩))) (X.ld1 (Try.agg3 _) ((hC.gr g).at 6 rfl))) hR.st0
 ·intro ac done u W Sx hR
  exact X.vl (X.binop rfl (Sx.ev 15 (Vi t)) (Sx.ev 19 (Vi p.T)) (X.geqI Try.underlying3 rfl)) hR.st0
 intro ac u w11 hs hd hl ho hR
 have g : Gr w10 w11 := hR.1
 replace F : Fr ac 68 [(0, Vp bq), (1, .agg #[Vi t, Vi x]), (3, Vp w.heap.size), (4, Vp w5.heap.size), (20, .bool (decide ((p.T : Int) ≤ t)))] := X.fr hs hd hl _ (by kernel_rfl)
 clear hs hd hl ho hR
 replace G := G.trans g
 replace hC := hC.gr g
 replace hE := hE.thenGr g
 replace hq := hq.gr g
 replace hM := hM.gr g
 replace hV6 := hV6.gr g
 clear g
 refine X.thenN ?_
 cases h12 : decide ((p.T : Int) ≤ t) with
 | false =>
  try rw [h12] at F
  have h12p : ¬ ((p.T : Int) ≤ t) := of_decide_eq_false h12
  have htT : t < p.T := by omega
  have hrb := refV_bd h (t := t) hx.1 hxb
  have hbs := bestV_bd h (t := (t : Int) + 1) (x := refV p t x) (by omega) hrb.1 hrb.2
  refine Y.condF (F.e 20 rfl) ?_
  refine Y.skip ?_
  refine X.thenN ?_
  refine Y.seq ?_
  refine Y.seq ?_
  obtain ⟨lb, hlk⟩ := memo_look (t := 108) (e := 69) Try.underlying108 Try.zero69 hM hsm
  cases lb with
  | false =>
   simp only [Bool.false_eq_true, if_false] at hlk
   have hq14 : w5.heap.size < w11.heap.size := hV6.lt
   have hq15 : bq < w11.heap.size := lt_cell (hC.at 0 rfl)
   have hq16 : w.heap.size < w11.heap.size := lt_cell (hC.at 8 rfl)
   have hq17 : bm < w11.heap.size := hM.lt
   have hmlt := hM.lt
   have hmlt18 := hmlt
   refine region_xi F [some (Vp bq), some (Vp bq), some (.pointer (some ⟨bq, 7, none⟩)), some (.map (some bm)), some (.agg #[Vi t, Vi x]), some (.tuple #[.agg #[Vi 0, Vi 0], .bool false]), some (.tuple #[.agg #[Vi 0, Vi 0], .bool false]), some (.agg #[Vi 0, Vi 0]), some (.bool false), none, none, some (.bool false)] (RTk w11 (fun _ => False) (fun _ => True) 9 10 (VL [Vi 0, Vi 0]) (VL [Vi 0, Vi 0])) rfl ⟨by kernel_rfl, of_decide_eq_true (by kernel_rfl), by kernel_rfl, by kernel_rfl, by kernel_rfl⟩ (fun _ => ⟨RTk.start (Gr.refl _) trivial, RTk.start (Gr.drew _) trivial⟩) ⟨?_, ?_, ?_, ?_, ?_, ?_, ?_, ?_, ?_, ?_, ?_, ?_, trivial⟩ ?_
   ·intro ac done u W Sx hR
    exact X.vl (X.move rfl (Sx.ev 0 (Vp bq))) (hR.quiet (by decide))
   ·intro ac done u W Sx hR
    exact X.vl (Y.nilC rfl (Sx.ev 23 (Vp bq))) (hR.quiet (by decide))
   ·intro ac done u W Sx hR
    exact X.vl (X.field rfl (Sx.ev 24 (Vp bq)) (X.fld Try.underlying110 rfl (Try.siz108 _) rfl rfl)) (hR.quiet (by decide))
   ·intro ac done u W Sx hR
    exact X.vl (X.load rfl (Sx.ev 25 (.pointer (some ⟨bq, 7, none⟩))) (X.ld1 (Try.agg108 _) (hR.o.cell (hC.at 7 rfl) (fun h => h)))) (hR.quiet (by decide))
   ·intro ac done u W Sx hR
    exact X.vl (X.load rfl (Sx.ev 3 (Vp w.heap.size)) (X.ldN (Try.agg72 _) (Try.siz72 _) (Y.atz (⟨w.heap.size, 0, none⟩) (Y.AtFrom.cons (hR.o.cell (hC.at 8 rfl) (fun h => h)) (Y.AtFrom.cons (hR.o.cell (hC.at 9 rfl) (fun h => h)) (Y.AtFrom.nil _ _ _)))))) (hR.quiet (by decide))
   ·intro ac done u W Sx hR
    exact X.vl (X.lk rfl (Sx.ev 26 (.map (some bm))) (Sx.ev 27 (.agg #[Vi t, Vi x])) (hlk W (hR.o.block _ hmlt (fun h => h)))) (hR.quiet (by decide))
   ·intro ac done u W Sx hR
    exact X.vl (X.move rfl (Sx.ev 28 (.tuple #[.agg #[Vi 0, Vi 0], .bool false]))) (hR.quiet (by decide))
   ·intro ac done u W Sx hR
    exact X.vl (X.extract rfl (Sx.ev 22 (.tuple #[.agg #[Vi 0, Vi 0], .bool false])) rfl) (hR.quiet (by decide))
   ·intro ac done u W Sx hR
    exact X.vl (X.extract rfl (Sx.ev 22 (.tuple #[.agg #[Vi 0, Vi 0], .bool false])) rfl) (hR.quiet (by decide))
   ·intro ac done u W Sx hR
    exact X.valN (X.w0 rfl) rfl (Y.al rfl (Try.new69 _)) (hR.alloc (by decide) (Sx.no 10 (by kernel_rfl)) hR.o.size (Gr.alloc _ _) (trivial) (ownP_2 (World.alloc_heap_new _ _)))
   ·intro ac done u W Sx hR
    obtain ⟨b_, eb, hge, hz, -⟩ := hR.q (Sx.an 9 (by kernel_rfl))
    obtain ⟨W2, hrun, hS2, hon⟩ := (hz Sx.nd).st2 (P := Try.prog) (t := 69) (x := Vi 0) (y := Vi 0) (fun W => Try.siz69 W) rfl rfl
    exact X.unit (X.w0 rfl) rfl (X.store rfl ((Sx.own 9 5 rfl).trans eb) (Sx.ev 29 (.agg #[Vi 0, Vi 0])) hrun) (hR.st (by decide) eb hge (trivial) hon hS2)
   ·intro ac done u W Sx hR
    exact X.vl (X.assign rfl (Sx.ev 30 (.bool false))) (hR.quiet (by decide))
   rintro ac u w19 hs hd hl_ ho hR
   replace F : Fr ac 68 [(0, Vp bq), (1, .agg #[Vi t, Vi x]), (3, Vp w.heap.size), (4, Vp w5.heap.size), (6, .bool false), (20, .bool false)] := X.fr hs hd hl_ _ (by kernel_rfl)
   obtain ⟨bk20, eb, hge20, -, hn⟩ := hR.q rfl
   have hV20 := hn rfl
   replace F := F.add (ho 9 5 rfl) eb
   replace F : Fr ac 68 [(0, Vp bq), (1, .agg #[Vi t, Vi x]), (3, Vp w.heap.size), (4, Vp w5.heap.size), (5, Vp bk20), (6, .bool false), (20, .bool false)] := F.sub _
   clear eb hn
   have hon := hR.o
   replace G := Gr.refl w19
   replace hE := hE.step2 hon (fun r e => e.elim)
   replace hq := hq.only hon (fun h => h)
   replace hM := hM.only hon (fun h => h)
   replace hV6 := hV6.only hon (fun h => h)
   replace hC := (RCells.cons (hon.cell (hC.at 0 rfl) (fun h => h)) (RCells.cons (hon.cell (hC.at 1 rfl) (fun h => h)) (RCells.cons (hon.cell (hC.at 2 rfl) (fun h => h)) (RCells.cons (hon.cell (hC.at 3 rfl) (fun h => h)) (RCells.cons (hon.cell (hC.at 4 rfl) (fun h => h)) (RCells.cons (hon.cell (hC.at 5 rfl) (fun h => h)) (RCells.cons (hon.cell (hC.at 6 rfl) (fun h => h)) (RCells.cons (hon.cell (hC.at 7 rfl) (fun h => h)) (RCells.cons (hon.cell (hC.at 8 rfl) (fun h => h)) (RCells.cons (hon.cell (hC.at 9 rfl) (fun h => h)) (RCells.nil _)))))))))))
   have hbk20 : bk20 < w19.heap.size := hV20.lt
   clear hs hd hl_ ho hR hon
   refine X.thenN ?_
   refine Y.seq ?_
   refine Y.lit (by kernel_rfl) ?_
   refine Y.pv F (X.move rfl (F.e 6 rfl)) ?_;clear F ac;intro ac F
   refine Y.nil ?_
   replace F : Fr ac 68 [(0, Vp bq), (1, .agg #[Vi t, Vi x]), (3, Vp w.heap.size), (4, Vp w5.heap.size), (5, Vp bk20), (6, .bool false), (20, .bool false), (31, .bool false)] := F.sub _
   refine X.thenN ?_
   refine Y.condF (F.e 31 rfl) ?_
   refine Y.skip ?_
   refine X.thenN ?_
   refine Y.seq ?_
   refine Y.lit (by kernel_rfl) ?_
   refine Y.pv F (X.move rfl (F.e 0 rfl)) ?_;clear F ac;intro ac F
   refine Y.pv F (X.load rfl (F.e 3 rfl) (X.ldN (Try.agg72 _) (Try.siz72 _) (Y.atz (⟨w.heap.size, 0, none⟩) (Y.AtFrom.cons (hC.at 8 rfl) (Y.AtFrom.cons (hC.at 9 rfl) (Y.AtFrom.nil _ _ _)))))) ?_;clear F ac;intro ac F
   refine Y.pcall F (X.w0 rfl) rfl (X.enter (F := 63) rfl (X.kc (.func (.func 63) #[] #[]) rfl) (X.a2 (F.e 34 rfl) (F.e 35 rfl)) (enters_of Try.func63 (by kernel_rfl) rfl _)) (stay_any bq bm gq p t x w19 hq h (by omega) (by omega)) ?_
   clear F ac
   rintro e w21 ⟨rfl, g⟩
   refine ⟨_, rfl, ?_⟩
   intro ac F
   replace G := G.trans g
   replace hC := hC.gr g
   replace hE := hE.thenGr g
   replace hq := hq.gr g
   replace hM := hM.gr g
   replace hV6 := hV6.gr g
   replace hV20 := hV20.gr g
   clear g
   refine Y.pv F (X.move rfl (F.e 36 rfl)) ?_;clear F ac;intro ac F
   refine Y.pv F (X.extract rfl (F.e 33 rfl) rfl) ?_;clear F ac;intro ac F
   refine Y.pv F (X.extract rfl (F.e 33 rfl) rfl) ?_;clear F ac;intro ac F
   refine Y.pv F (Y.al rfl (Try.new72 _)) ?_;clear F ac;intro ac F
   have hgshV22 := G.size
   have hq23 : w5.heap.size < w21.heap.size := hV6.lt
   have hq24 : bk20 < w21.heap.size := hV20.lt
   have hq25 : bq < w21.heap.size := lt_cell (hC.at 0 rfl)
   have hq26 : w.heap.size < w21.heap.size := lt_cell (hC.at 8 rfl)
   have hq27 : bm < w21.heap.size := hM.lt
   have g := Gr.alloc w21 (.cells #[Vi 0, Vi 0] 72)
   have hb := heap_alloc_new w21 (.cells #[Vi 0, Vi 0] 72)
   have hbl : w21.heap.size < (w21.alloc (.cells #[Vi 0, Vi 0] 72)).heap.size := by simp
   generalize w21.alloc (.cells #[Vi 0, Vi 0] 72) = w28 at *
   replace G := G.trans g
   replace hC := hC.gr g
   replace hE := hE.thenGr g
   replace hq := hq.gr g
   replace hM := hM.gr g
   replace hV6 := hV6.gr g
   replace hV20 := hV20.gr g
   have hV22 := ownP_2 hb
   clear g hb hbl
   refine Y.pv F (Y.al rfl (Try.new69 _)) ?_;clear F ac;intro ac F
   have hgshV29 := G.size
   have hq30 : w5.heap.size < w28.heap.size := hV6.lt
   have hq31 : bk20 < w28.heap.size := hV20.lt
   have hq32 : w21.heap.size < w28.heap.size := hV22.lt
   have hq33 : bq < w28.heap.size := lt_cell (hC.at 0 rfl)
   have hq34 : w.heap.size < w28.heap.size := lt_cell (hC.at 8 rfl)
   have hq35 : bm < w28.heap.size := hM.lt
   have g := Gr.alloc w28 (.cells #[Vi 0, Vi 0] 69)
   have hb := heap_alloc_new w28 (.cells #[Vi 0, Vi 0] 69)
   have hbl : w28.heap.size < (w28.alloc (.cells #[Vi 0, Vi 0] 69)).heap.size := by simp
   generalize w28.alloc (.cells #[Vi 0, Vi 0] 69) = w36 at *
   replace G := G.trans g
   replace hC := hC.gr g
   replace hE := hE.thenGr g
   replace hq := hq.gr g
   replace hM := hM.gr g
   replace hV6 := hV6.gr g
   replace hV20 := hV20.gr g
   replace hV22 := hV22.gr g
   have hV29 := ownP_2 hb
   clear g hb hbl
   obtain ⟨w37, hrun, hS2, hon⟩ := hV22.st2 (P := Try.prog) (t := 72) (x := Vi ((t : Int) + 1)) (y := Vi (refV p t x)) (fun W => Try.siz72 W) rfl rfl
   refine Y.punit F (X.w0 rfl) rfl (X.store rfl (F.e 7 rfl) (F.e 37 rfl) hrun) ?_
   clear F ac hrun
   intro ac F
   replace G := Gr.refl w37
   replace hq := hq.only hon (by show ¬ _ = _; omega)
   replace hM := hM.only hon (by show ¬ _ = _; omega)
   replace hV6 := hV6.only hon (by show ¬ _ = _; omega)
   replace hV20 := hV20.only hon (by show ¬ _ = _; omega)
   replace hV29 := hV29.only hon (by show ¬ _ = _; omega)
   replace hC := (hC.kc hon 0 rfl (hC.kc hon 1 rfl (hC.kc hon 2 rfl (hC.kc hon 3 rfl (hC.kc hon 4 rfl (hC.kc hon 5 rfl (hC.kc hon 6 rfl (hC.kc hon 7 rfl (hC.kc hon 8 rfl (hC.kc hon 9 rfl (RCells.nil _)))))))))))
   replace hE := hE.step hon (.inr (by omega))
   replace hV22 := hS2
   clear hS2 hon
   obtain ⟨w38, hrun, hS2, hon⟩ := hV29.st2 (P := Try.prog) (t := 69) (x := Vi p.za) (y := Vi 0) (fun W => Try.siz69 W) rfl rfl
   refine Y.punit F (X.w0 rfl) rfl (X.store rfl (F.e 8 rfl) (F.e 38 rfl) hrun) ?_
   clear F ac hrun
   intro ac F
   replace G := Gr.refl w38
   replace hq := hq.only hon (by show ¬ _ = _; omega)
   replace hM := hM.only hon (by show ¬ _ = _; omega)
   replace hV6 := hV6.only hon (by show ¬ _ = _; omega)
   replace hV20 := hV20.only hon (by show ¬ _ = _; omega)
   replace hV22 := hV22.only hon (by show ¬ _ = _; omega)
   replace hC := (hC.kc hon 0 rfl (hC.kc hon 1 rfl (hC.kc hon 2 rfl (hC.kc hon 3 rfl (hC.kc hon 4 rfl (hC.kc hon 5 rfl (hC.kc hon 6 rfl (hC.kc hon 7 rfl (hC.kc hon 8 rfl (hC.kc hon 9 rfl (RCells.nil _)))))))))))
   replace hE := hE.step hon (.inr (by omega))
   replace hV29 := hS2
   clear hS2 hon
   refine Y.nil ?_
   replace F : Fr ac 68 [(0, Vp bq), (1, .agg #[Vi t, Vi x]), (3, Vp w.heap.size), (4, Vp w5.heap.size), (5, Vp bk20), (6, .bool false), (7, Vp w21.heap.size), (8, Vp w28.heap.size), (20, .bool false), (31, .bool false)] := F.sub _
   refine X.thenN ?_
   refine Y.seq ?_
   replace hC : RCells w38 [(Ad bq 0, Vi gq), (Ad bq 1, Vi p.aw), (Ad bq 2, Vi p.za), (Ad bq 3, Vi p.bu), (Ad bq 4, Vi p.re), (Ad bq 5, Vi p.hold), (Ad bq 6, Vi p.T), (Ad bq 7, .map (some bm)), (Ad w.heap.size 0, Vi t), (Ad w.heap.size 1, Vi x), (Ad w21.heap.size 0, Vi ((t : Int) + 1))] := hC.append ((RCells.cons (hV22.cell (k := 0) (by decide)) (RCells.nil _)))
   replace hC : RCells w38 [(Ad bq 0, Vi gq), (Ad bq 1, Vi p.aw), (Ad bq 2, Vi p.za), (Ad bq 3, Vi p.bu), (Ad bq 4, Vi p.re), (Ad bq 5, Vi p.hold), (Ad bq 6, Vi p.T), (Ad bq 7, .map (some bm)), (Ad w.heap.size 0, Vi t), (Ad w.heap.size 1, Vi x), (Ad w21.heap.size 0, Vi ((t : Int) + 1)), (Ad w21.heap.size 1, Vi (refV p t x))] := hC.append ((RCells.cons (hV22.cell (k := 1) (by decide)) (RCells.nil _)))
   replace hC : RCells w38 [(Ad bq 0, Vi gq), (Ad bq 1, Vi p.aw), (Ad bq 2, Vi p.za), (Ad bq 3, Vi p.bu), (Ad bq 4, Vi p.re), (Ad bq 5, Vi p.hold), (Ad bq 6, Vi p.T), (Ad bq 7, .map (some bm)), (Ad w.heap.size 0, Vi t), (Ad w.heap.size 1, Vi x), (Ad w21.heap.size 0, Vi ((t : Int) + 1)), (Ad w21.heap.size 1, Vi (refV p t x)), (Ad w28.heap.size 0, Vi p.za)] := hC.append ((RCells.cons (hV29.cell (k := 0) (by decide)) (RCells.nil _)))
   replace hC : RCells w38 [(Ad bq 0, Vi gq), (Ad bq 1, Vi p.aw), (Ad bq 2, Vi p.za), (Ad bq 3, Vi p.bu), (Ad bq 4, Vi p.re), (Ad bq 5, Vi p.hold), (Ad bq 6, Vi p.T), (Ad bq 7, .map (some bm)), (Ad w.heap.size 0, Vi t), (Ad w.heap.size 1, Vi x), (Ad w21.heap.size 0, Vi ((t : Int) + 1)), (Ad w21.heap.size 1, Vi (refV p t x)), (Ad w28.heap.size 0, Vi p.za), (Ad w28.heap.size 1, Vi 0)] := hC.append ((RCells.cons (hV29.cell (k := 1) (by decide)) (RCells.nil _)))
   have hq39 : w5.heap.size < w38.heap.size := hV6.lt
   have hq40 : bk20 < w38.heap.size := hV20.lt
   have hq41 : w21.heap.size < w38.heap.size := hV22.lt
   have hq42 : w28.heap.size < w38.heap.size := hV29.lt
   have hq43 : bq < w38.heap.size := lt_cell (hC.at 0 rfl)
   have hq44 : w.heap.size < w38.heap.size := lt_cell (hC.at 8 rfl)
   have hq45 : w21.heap.size < w38.heap.size := lt_cell (hC.at 10 rfl)
   have hq46 : w28.heap.size < w38.heap.size := lt_cell (hC.at 12 rfl)
   have hq47 : bm < w38.heap.size := hM.lt
   have hmlt := hM.lt
   have hmlt48 := hmlt
   refine region_xi F [some (Vp bq), some (.agg #[Vi ((t : Int) + 1), Vi (refV p t x)]), some (.agg #[Vi ((bestV p ((t : Int) + 1) (refV p t x)).1), Vi ((bestV p ((t : Int) + 1) (refV p t x)).2)]), some (.agg #[Vi p.za, Vi 0]), some (.agg #[Vi (((bestV p ((t : Int) + 1) (refV p t x)).1 : Int) + p.za), Vi (((bestV p ((t : Int) + 1) (refV p t x)).2 : Int) + 0)]), none, none] (RTk w38 (fun b => b = bm) (fun W => Memo W bm (gdV p)) 5 6 (VL [Vi 0, Vi 0]) (VL [Vi (((bestV p ((t : Int) + 1) (refV p t x)).1 : Int) + p.za), Vi (((bestV p ((t : Int) + 1) (refV p t x)).2 : Int) + 0)])) rfl ⟨by kernel_rfl, of_decide_eq_true (by kernel_rfl), by kernel_rfl, by kernel_rfl, by kernel_rfl⟩ (fun _ => ⟨RTk.start (Gr.refl _) hM, RTk.start (Gr.drew _) (hM.gr (Gr.drew _))⟩) ⟨?_, ?_, ?_, ?_, ?_, ?_, ?_, trivial⟩ ?_
   ·intro ac done u W Sx hR
    exact X.vl (X.move rfl (Sx.ev 0 (Vp bq))) (hR.quiet (by decide))
   ·intro ac done u W Sx hR
    exact X.vl (X.load rfl (Sx.ev 7 (Vp w21.heap.size)) (X.ldN (Try.agg72 _) (Try.siz72 _) (Y.atz (⟨w21.heap.size, 0, none⟩) (Y.AtFrom.cons (hR.o.cell (hC.at 10 rfl) (by show ¬ w21.heap.size = bm; omega)) (Y.AtFrom.cons (hR.o.cell (hC.at 11 rfl) (by show ¬ w21.heap.size = bm; omega)) (Y.AtFrom.nil _ _ _)))))) (hR.quiet (by decide))
   ·intro ac done u W Sx hR
    refine X.call (X.w0 rfl) (X.enter (F := 48) rfl (X.kc (.func (.func 48) #[] #[]) rfl) (X.a2 (Sx.ev 39 (Vp bq)) (Sx.ev 40 (.agg #[Vi ((t : Int) + 1), Vi (refV p t x)]))) (enters_of Try.func48 (by kernel_rfl) rfl _)) (ih htT ((t : Int) + 1) (refV p t x) W (by omega) ⟨by omega, by omega⟩ ⟨by omega, by omega⟩ (hq.only hR.o (by show ¬ bq = bm; omega)) hR.m) ?_
    rintro e W2 ⟨rfl, hon, hM2⟩
    exact ⟨_, rfl, X.kn rfl, hR.call (by decide) (fun b e => by subst e; exact hmlt) hon hM2⟩
   ·intro ac done u W Sx hR
    exact X.vl (X.load rfl (Sx.ev 8 (Vp w28.heap.size)) (X.ldN (Try.agg69 _) (Try.siz69 _) (Y.atz (⟨w28.heap.size, 0, none⟩) (Y.AtFrom.cons (hR.o.cell (hC.at 12 rfl) (by show ¬ w28.heap.size = bm; omega)) (Y.AtFrom.cons (hR.o.cell (hC.at 13 rfl) (by show ¬ w28.heap.size = bm; omega)) (Y.AtFrom.nil _ _ _)))))) (hR.quiet (by decide))
   ·intro ac done u W Sx hR
    refine X.call (X.w0 rfl) (X.enter (F := 62) rfl (X.kc (.func (.func 62) #[] #[]) rfl) (X.a2 (Sx.ev 41 (.agg #[Vi ((bestV p ((t : Int) + 1) (refV p t x)).1), Vi ((bestV p ((t : Int) + 1) (refV p t x)).2)])) (Sx.ev 42 (.agg #[Vi p.za, Vi 0]))) (enters_of Try.func62 (by kernel_rfl) rfl _)) (and_any ((bestV p ((t : Int) + 1) (refV p t x)).1) ((bestV p ((t : Int) + 1) (refV p t x)).2) p.za 0 W (by omega) (by omega)) ?_
    rintro e W2 ⟨rfl, g2⟩
    exact ⟨_, rfl, X.kn rfl, hR.call (by decide) (fun b e => by subst e; exact hmlt) (g2.only _) (hR.m.gr g2)⟩
   ·intro ac done u W Sx hR
    exact X.valN (X.w0 rfl) rfl (Y.al rfl (Try.new69 _)) (hR.alloc (by decide) (Sx.no 6 (by kernel_rfl)) hR.o.size (Gr.alloc _ _) (hR.m.gr (Gr.alloc _ _)) (ownP_2 (World.alloc_heap_new _ _)))
   ·intro ac done u W Sx hR
    obtain ⟨b_, eb, hge, hz, -⟩ := hR.q (Sx.an 5 (by kernel_rfl))
    obtain ⟨W2, hrun, hS2, hon⟩ := (hz Sx.nd).st2 (P := Try.prog) (t := 69) (x := Vi (((bestV p ((t : Int) + 1) (refV p t x)).1 : Int) + p.za)) (y := Vi (((bestV p ((t : Int) + 1) (refV p t x)).2 : Int) + 0)) (fun W => Try.siz69 W) rfl rfl
    exact X.unit (X.w0 rfl) rfl (X.store rfl ((Sx.own 5 9 rfl).trans eb) (Sx.ev 43 (.agg #[Vi (((bestV p ((t : Int) + 1) (refV p t x)).1 : Int) + p.za), Vi (((bestV p ((t : Int) + 1) (refV p t x)).2 : Int) + 0)])) hrun) (hR.st (by decide) eb hge (hR.m.only hon (by show ¬ _ = _; omega)) hon hS2)
   rintro ac u w49 hs hd hl_ ho hR
   replace F : Fr ac 68 [(0, Vp bq), (1, .agg #[Vi t, Vi x]), (3, Vp w.heap.size), (4, Vp w5.heap.size), (5, Vp bk20), (6, .bool false), (7, Vp w21.heap.size), (8, Vp w28.heap.size), (20, .bool false), (31, .bool false)] := X.fr hs hd hl_ _ (by kernel_rfl)
   obtain ⟨bk50, eb, hge50, -, hn⟩ := hR.q rfl
   have hV50 := hn rfl
   replace F := F.add (ho 5 9 rfl) eb
   replace F : Fr ac 68 [(0, Vp bq), (1, .agg #[Vi t, Vi x]), (3, Vp w.heap.size), (4, Vp w5.heap.size), (5, Vp bk20), (6, .bool false), (7, Vp w21.heap.size), (8, Vp w28.heap.size), (9, Vp bk50), (20, .bool false), (31, .bool false)] := F.sub _
   clear eb hn
   have hon := hR.o
   replace G := Gr.refl w49
   replace hq := hq.only hon (by show ¬ bq = bm; omega)
   replace hM := hR.m
   replace hV6 := hV6.only hon (by show ¬ w5.heap.size = bm; omega)
   replace hV20 := hV20.only hon (by show ¬ bk20 = bm; omega)
   replace hV22 := hV22.only hon (by show ¬ w21.heap.size = bm; omega)
   replace hV29 := hV29.only hon (by show ¬ w28.heap.size = bm; omega)
   replace hC := (hC.kc hon 0 rfl (hC.kc hon 1 rfl (hC.kc hon 2 rfl (hC.kc hon 3 rfl (hC.kc hon 4 rfl (hC.kc hon 5 rfl (hC.kc hon 6 rfl (hC.kc hon 7 rfl (hC.kc hon 8 rfl (hC.kc hon 9 rfl (hC.kc hon 10 rfl (hC.kc hon 11 rfl (hC.kc hon 12 rfl (hC.kc hon 13 rfl (RCells.nil _)))))))))))))))
   replace hE := hE.trans hon
   have hbk50 : bk50 < w49.heap.size := hV50.lt
   clear hs hd hl_ ho hR hon
   refine X.thenN ?_
   refine Y.seq ?_
   refine Y.seq ?_
   refine Y.lit (by kernel_rfl) ?_
   refine Y.pv F (X.move rfl (F.e 0 rfl)) ?_;clear F ac;intro ac F
   refine Y.pv F (X.load rfl (F.e 3 rfl) (X.ldN (Try.agg72 _) (Try.siz72 _) (Y.atz (⟨w.heap.size, 0, none⟩) (Y.AtFrom.cons (hC.at 8 rfl) (Y.AtFrom.cons (hC.at 9 rfl) (Y.AtFrom.nil _ _ _)))))) ?_;clear F ac;intro ac F
   by_cases hwk : refV p t x = 0
   ·have hwk := hwk
    refine Y.pcall F (X.w0 rfl) rfl (X.enter (F := 61) rfl (X.kc (.func (.func 61) #[] #[]) rfl) (X.a2 (F.e 45 rfl) (F.e 46 rfl)) (enters_of Try.func61 (by kernel_rfl) rfl _)) ((wake_any bq bm gq p t x w49 hq h (by omega) (by omega)).mono (fun e w h => by rw [if_pos hwk] at h; exact h)) ?_
    clear F ac
    rintro e w52 ⟨rfl, g⟩
    refine ⟨_, rfl, ?_⟩
    intro ac F
    replace G := G.trans g
    replace hC := hC.gr g
    replace hE := hE.thenGr g
    replace hq := hq.gr g
    replace hM := hM.gr g
    replace hV6 := hV6.gr g
    replace hV20 := hV20.gr g
    replace hV22 := hV22.gr g
    replace hV29 := hV29.gr g
    replace hV50 := hV50.gr g
    clear g
    refine Y.pv F (X.move rfl (F.e 47 rfl)) ?_;clear F ac;intro ac F
    refine Y.pv F (X.extract rfl (F.e 44 rfl) rfl) ?_;clear F ac;intro ac F
    refine Y.pv F (X.extract rfl (F.e 44 rfl) rfl) ?_;clear F ac;intro ac F
    refine Y.pv F (X.extract rfl (F.e 44 rfl) rfl) ?_;clear F ac;intro ac F
    refine Y.pv F (Y.al rfl (Try.new72 _)) ?_;clear F ac;intro ac F
    have hgshV53 := G.size
    have hq54 : w5.heap.size < w52.heap.size := hV6.lt
    have hq55 : bk20 < w52.heap.size := hV20.lt
    have hq56 : w21.heap.size < w52.heap.size := hV22.lt
    have hq57 : w28.heap.size < w52.heap.size := hV29.lt
    have hq58 : bk50 < w52.heap.size := hV50.lt
    have hq59 : bq < w52.heap.size := lt_cell (hC.at 0 rfl)
    have hq60 : w.heap.size < w52.heap.size := lt_cell (hC.at 8 rfl)
    have hq61 : w21.heap.size < w52.heap.size := lt_cell (hC.at 10 rfl)
    have hq62 : w28.heap.size < w52.heap.size := lt_cell (hC.at 12 rfl)
    have hq63 : bm < w52.heap.size := hM.lt
    have g := Gr.alloc w52 (.cells #[Vi 0, Vi 0] 72)
    have hb := heap_alloc_new w52 (.cells #[Vi 0, Vi 0] 72)
    have hbl : w52.heap.size < (w52.alloc (.cells #[Vi 0, Vi 0] 72)).heap.size := by simp
    generalize w52.alloc (.cells #[Vi 0, Vi 0] 72) = w64 at *
    replace G := G.trans g
    replace hC := hC.gr g
    replace hE := hE.thenGr g
    replace hq := hq.gr g
    replace hM := hM.gr g
    replace hV6 := hV6.gr g
    replace hV20 := hV20.gr g
    replace hV22 := hV22.gr g
    replace hV29 := hV29.gr g
    replace hV50 := hV50.gr g
    have hV53 := ownP_2 hb
    clear g hb hbl
    refine Y.pv F (Y.al rfl (Try.new69 _)) ?_;clear F ac;intro ac F
    have hgshV65 := G.size
    have hq66 : w5.heap.size < w64.heap.size := hV6.lt
    have hq67 : bk20 < w64.heap.size := hV20.lt
    have hq68 : w21.heap.size < w64.heap.size := hV22.lt
    have hq69 : w28.heap.size < w64.heap.size := hV29.lt
    have hq70 : bk50 < w64.heap.size := hV50.lt
    have hq71 : w52.heap.size < w64.heap.size := hV53.lt
    have hq72 : bq < w64.heap.size := lt_cell (hC.at 0 rfl)
    have hq73 : w.heap.size < w64.heap.size := lt_cell (hC.at 8 rfl)
    have hq74 : w21.heap.size < w64.heap.size := lt_cell (hC.at 10 rfl)
    have hq75 : w28.heap.size < w64.heap.size := lt_cell (hC.at 12 rfl)
    have hq76 : bm < w64.heap.size := hM.lt
    have g := Gr.alloc w64 (.cells #[Vi 0, Vi 0] 69)
    have hb := heap_alloc_new w64 (.cells #[Vi 0, Vi 0] 69)
    have hbl : w64.heap.size < (w64.alloc (.cells #[Vi 0, Vi 0] 69)).heap.size := by simp
    generalize w64.alloc (.cells #[Vi 0, Vi 0] 69) = w77 at *
    replace G := G.trans g
    replace hC := hC.gr g
    replace hE := hE.thenGr g
    replace hq := hq.gr g
    replace hM := hM.gr g
    replace hV6 := hV6.gr g
    replace hV20 := hV20.gr g
    replace hV22 := hV22.gr g
    replace hV29 := hV29.gr g
    replace hV50 := hV50.gr g
    replace hV53 := hV53.gr g
    have hV65 := ownP_2 hb
    clear g hb hbl
    obtain ⟨w78, hrun, hS2, hon⟩ := hV53.st2 (P := Try.prog) (t := 72) (x := Vi t) (y := Vi x) (fun W => Try.siz72 W) rfl rfl
    refine Y.punit F (X.w0 rfl) rfl (X.store rfl (F.e 10 rfl) (F.e 48 rfl) hrun) ?_
    clear F ac hrun
    intro ac F
    replace G := Gr.refl w78
    replace hq := hq.only hon (by show ¬ _ = _; omega)
    replace hM := hM.only hon (by show ¬ _ = _; omega)
    replace hV6 := hV6.only hon (by show ¬ _ = _; omega)
    replace hV20 := hV20.only hon (by show ¬ _ = _; omega)
    replace hV22 := hV22.only hon (by show ¬ _ = _; omega)
    replace hV29 := hV29.only hon (by show ¬ _ = _; omega)
    replace hV50 := hV50.only hon (by show ¬ _ = _; omega)
    replace hV65 := hV65.only hon (by show ¬ _ = _; omega)
    replace hC := (hC.kc hon 0 rfl (hC.kc hon 1 rfl (hC.kc hon 2 rfl (hC.kc hon 3 rfl (hC.kc hon 4 rfl (hC.kc hon 5 rfl (hC.kc hon 6 rfl (hC.kc hon 7 rfl (hC.kc hon 8 rfl (hC.kc hon 9 rfl (hC.kc hon 10 rfl (hC.kc hon 11 rfl (hC.kc hon 12 rfl (hC.kc hon 13 rfl (RCells.nil _)))))))))))))))
    replace hE := hE.step hon (.inr (by omega))
    replace hV53 := hS2
    clear hS2 hon
    obtain ⟨w79, hrun, hS2, hon⟩ := hV65.st2 (P := Try.prog) (t := 69) (x := Vi 0) (y := Vi 0) (fun W => Try.siz69 W) rfl rfl
    refine Y.punit F (X.w0 rfl) rfl (X.store rfl (F.e 11 rfl) (F.e 49 rfl) hrun) ?_
    clear F ac hrun
    intro ac F
    replace G := Gr.refl w79
    replace hq := hq.only hon (by show ¬ _ = _; omega)
    replace hM := hM.only hon (by show ¬ _ = _; omega)
    replace hV6 := hV6.only hon (by show ¬ _ = _; omega)
    replace hV20 := hV20.only hon (by show ¬ _ = _; omega)
    replace hV22 := hV22.only hon (by show ¬ _ = _; omega)
    replace hV29 := hV29.only hon (by show ¬ _ = _; omega)
    replace hV50 := hV50.only hon (by show ¬ _ = _; omega)
    replace hV53 := hV53.only hon (by show ¬ _ = _; omega)
    replace hC := (hC.kc hon 0 rfl (hC.kc hon 1 rfl (hC.kc hon 2 rfl (hC.kc hon 3 rfl (hC.kc hon 4 rfl (hC.kc hon 5 rfl (hC.kc hon 6 rfl (hC.kc hon 7 rfl (hC.kc hon 8 rfl (hC.kc hon 9 rfl (hC.kc hon 10 rfl (hC.kc hon 11 rfl (hC.kc hon 12 rfl (hC.kc hon 13 rfl (RCells.nil _)))))))))))))))
    replace hE := hE.step hon (.inr (by omega))
    replace hV65 := hS2
    clear hS2 hon
    refine Y.pv F (X.assign rfl (F.e 50 rfl)) ?_;clear F ac;intro ac F
    refine Y.nil ?_
    replace F : Fr ac 68 [(0, Vp bq), (1, .agg #[Vi t, Vi x]), (3, Vp w.heap.size), (4, Vp w5.heap.size), (5, Vp bk20), (6, .bool false), (7, Vp w21.heap.size), (8, Vp w28.heap.size), (9, Vp bk50), (10, Vp w52.heap.size), (11, Vp w64.heap.size), (12, .bool false), (20, .bool false), (31, .bool false)] := F.sub _
    refine X.thenN ?_
    refine Y.seq ?_
    refine Y.lit (by kernel_rfl) ?_
    refine Y.pv F (X.move rfl (F.e 12 rfl)) ?_;clear F ac;intro ac F
    refine Y.nil ?_
    replace F : Fr ac 68 [(0, Vp bq), (1, .agg #[Vi t, Vi x]), (3, Vp w.heap.size), (4, Vp w5.heap.size), (5, Vp bk20), (6, .bool false), (7, Vp w21.heap.size), (8, Vp w28.heap.size), (9, Vp bk50), (10, Vp w52.heap.size), (11, Vp w64.heap.size), (12, .bool false), (20, .bool false), (31, .bool false), (51, .bool false)] := F.sub _
    refine X.thenN ?_
    refine Y.condF (F.e 51 rfl) ?_
    refine Y.skip ?_
    refine X.thenN ?_
    refine Y.seq ?_
    replace hC : RCells w79 [(Ad bq 0, Vi gq), (Ad bq 1, Vi p.aw), (Ad bq 2, Vi p.za), (Ad bq 3, Vi p.bu), (Ad bq 4, Vi p.re), (Ad bq 5, Vi p.hold), (Ad bq 6, Vi p.T), (Ad bq 7, .map (some bm)), (Ad w.heap.size 0, Vi t), (Ad w.heap.size 1, Vi x), (Ad w21.heap.size 0, Vi ((t : Int) + 1)), (Ad w21.heap.size 1, Vi (refV p t x)), (Ad w28.heap.size 0, Vi p.za), (Ad w28.heap.size 1, Vi 0), (Ad bk50 0, Vi (((bestV p ((t : Int) + 1) (refV p t x)).1 : Int) + p.za))] := hC.append ((RCells.cons (hV50.cell (k := 0) (by decide)) (RCells.nil _)))
    replace hC : RCells w79 [(Ad bq 0, Vi gq), (Ad bq 1, Vi p.aw), (Ad bq 2, Vi p.za), (Ad bq 3, Vi p.bu), (Ad bq 4, Vi p.re), (Ad bq 5, Vi p.hold), (Ad bq 6, Vi p.T), (Ad bq 7, .map (some bm)), (Ad w.heap.size 0, Vi t), (Ad w.heap.size 1, Vi x), (Ad w21.heap.size 0, Vi ((t : Int) + 1)), (Ad w21.heap.size 1, Vi (refV p t x)), (Ad w28.heap.size 0, Vi p.za), (Ad w28.heap.size 1, Vi 0), (Ad bk50 0, Vi (((bestV p ((t : Int) + 1) (refV p t x)).1 : Int) + p.za)), (Ad bk50 1, Vi (((bestV p ((t : Int) + 1) (refV p t x)).2 : Int) + 0))] := hC.append ((RCells.cons (hV50.cell (k := 1) (by decide)) (RCells.nil _)))
    refine Y.regionS F [some (Vp bq), some (Vp bq), some (.pointer (some ⟨bq, 7, none⟩)), some (.map (some bm)), some (.agg #[Vi t, Vi x]), some (.agg #[Vi (((bestV p ((t : Int) + 1) (refV p t x)).1 : Int) + p.za), Vi (((bestV p ((t : Int) + 1) (refV p t x)).2 : Int) + 0)]), none] [] 6 (fun _ W => Only (fun x => x = bm) w79 W ∧ Memo W bm (gdV p)) rfl ⟨by kernel_rfl, of_decide_eq_true (by kernel_rfl), by kernel_rfl, by kernel_rfl, by kernel_rfl⟩ (of_decide_eq_true (by kernel_rfl)) ⟨?_, ?_, ?_, ?_, ?_, ?_, ?_, trivial⟩ ?_
    ·intro ac done u W Sx hT
     have hs := Sx.no 6 (by kernel_rfl)
     have hR := hT.1 hs
     exact X.vl (X.move rfl (Sx.ev 0 (Vp bq))) (Y.RT.of hs rfl hR.st0)
    ·intro ac done u W Sx hT
     have hs := Sx.no 6 (by kernel_rfl)
     have hR := hT.1 hs
     exact X.vl (Y.nilC rfl (Sx.ev 61 (Vp bq))) (Y.RT.of hs rfl hR.st0)
    ·intro ac done u W Sx hT
     have hs := Sx.no 6 (by kernel_rfl)
     have hR := hT.1 hs
     exact X.vl (X.field rfl (Sx.ev 62 (Vp bq)) (X.fld Try.underlying110 rfl (Try.siz108 _) rfl rfl)) (Y.RT.of hs rfl hR.st0)
    ·intro ac done u W Sx hT
     have hs := Sx.no 6 (by kernel_rfl)
     have hR := hT.1 hs
     have g : Gr w79 W := hR.1
     exact X.vl (X.load rfl (Sx.ev 63 (.pointer (some ⟨bq, 7, none⟩))) (X.ld1 (Try.agg108 _) ((hC.gr g).at 7 rfl))) (Y.RT.of hs rfl hR.st0)
    ·intro ac done u W Sx hT
     have hs := Sx.no 6 (by kernel_rfl)
     have hR := hT.1 hs
     have g : Gr w79 W := hR.1
     exact X.vl (X.load rfl (Sx.ev 3 (Vp w.heap.size)) (X.ldN (Try.agg72 _) (Try.siz72 _) (Y.atz (⟨w.heap.size, 0, none⟩) (Y.AtFrom.cons ((hC.gr g).at 8 rfl) (Y.AtFrom.cons ((hC.gr g).at 9 rfl) (Y.AtFrom.nil _ _ _)))))) (Y.RT.of hs rfl hR.st0)
    ·intro ac done u W Sx hT
     have hs := Sx.no 6 (by kernel_rfl)
     have hR := hT.1 hs
     have g : Gr w79 W := hR.1
     exact X.vl (X.load rfl (Sx.ev 9 (Vp bk50)) (X.ldN (Try.agg69 _) (Try.siz69 _) (Y.atz (⟨bk50, 0, none⟩) (Y.AtFrom.cons ((hC.gr g).at 14 rfl) (Y.AtFrom.cons ((hC.gr g).at 15 rfl) (Y.AtFrom.nil _ _ _)))))) (Y.RT.of hs rfl hR.st0)
    ·intro ac done u W Sx hT
     have hR := hT.1 Sx.nd
     have g : Gr w79 W := hR.1
     obtain ⟨W2, hrun, hM2, hon⟩ := memo_store (t := 108) (e := 69) (v := .agg #[Vi (((bestV p ((t : Int) + 1) (refV p t x)).1 : Int) + p.za), Vi (((bestV p ((t : Int) + 1) (refV p t x)).2 : Int) + 0)]) Try.underlying108 (hM.gr g) hsm (by show (.agg #[Vi (((bestV p ((t : Int) + 1) (refV p t x)).1 : Int) + p.za), Vi (((bestV p ((t : Int) + 1) (refV p t x)).2 : Int) + 0)] : Value) = gfV p t x; unfold gfV; rw [show bestV p t x = (((bestV p ((t : Int) + 1) (refV p t x)).1 : Int) + p.za, ((bestV p ((t : Int) + 1) (refV p t x)).2 : Int) + 0) from by rw [bestV_stay htT hwk]; rfl])
     exact X.unit (X.w0 rfl) rfl (X.mu rfl (Sx.ev 64 (.map (some bm))) (Sx.ev 65 (.agg #[Vi t, Vi x])) (Sx.ev 66 (.agg #[Vi (((bestV p ((t : Int) + 1) (refV p t x)).1 : Int) + p.za), Vi (((bestV p ((t : Int) + 1) (refV p t x)).2 : Int) + 0)])) hrun) (Y.RT.fin ⟨(g.only _).trans hon, hM2⟩)
    rintro ac u w80 hs hd hl_ ho ⟨hon, hS2⟩
    replace F : Fr ac 68 [(0, Vp bq), (1, .agg #[Vi t, Vi x]), (3, Vp w.heap.size), (4, Vp w5.heap.size), (5, Vp bk20), (6, .bool false), (7, Vp w21.heap.size), (8, Vp w28.heap.size), (9, Vp bk50), (10, Vp w52.heap.size), (11, Vp w64.heap.size), (12, .bool false), (20, .bool false), (31, .bool false), (51, .bool false)] := X.fr hs hd hl_ _ (by kernel_rfl)
    clear hs hd hl_ ho
    replace G := Gr.refl w80
    replace hq := hq.only hon (by show ¬ bq = bm; omega)
    replace hM := hS2
    replace hV6 := hV6.only hon (by show ¬ w5.heap.size = bm; omega)
    replace hV20 := hV20.only hon (by show ¬ bk20 = bm; omega)
    replace hV22 := hV22.only hon (by show ¬ w21.heap.size = bm; omega)
    replace hV29 := hV29.only hon (by show ¬ w28.heap.size = bm; omega)
    replace hV50 := hV50.only hon (by show ¬ bk50 = bm; omega)
    replace hV53 := hV53.only hon (by show ¬ w52.heap.size = bm; omega)
    replace hV65 := hV65.only hon (by show ¬ w64.heap.size = bm; omega)
    replace hC := (hC.kc hon 0 rfl (hC.kc hon 1 rfl (hC.kc hon 2 rfl (hC.kc hon 3 rfl (hC.kc hon 4 rfl (hC.kc hon 5 rfl (hC.kc hon 6 rfl (hC.kc hon 7 rfl (hC.kc hon 8 rfl (hC.kc hon 9 rfl (hC.kc hon 10 rfl (hC.kc hon 11 rfl (hC.kc hon 12 rfl (hC.kc hon 13 rfl (hC.kc hon 14 rfl (hC.kc hon 15 rfl (RCells.nil _)))))))))))))))))
    replace hE := hE.step hon (.inl rfl)
    clear hon hS2
    refine X.thenN ?_
    refine Y.seq ?_
    refine Y.lit (by kernel_rfl) ?_
    refine Y.pv F (X.load rfl (F.e 9 rfl) (X.ldN (Try.agg69 _) (Try.siz69 _) (Y.atz (⟨bk50, 0, none⟩) (Y.AtFrom.cons (hC.at 14 rfl) (Y.AtFrom.cons (hC.at 15 rfl) (Y.AtFrom.nil _ _ _)))))) ?_;clear F ac;intro ac F
    obtain ⟨w81, hrun, hS2, hon⟩ := hV6.st2 (P := Try.prog) (t := 69) (x := Vi (((bestV p ((t : Int) + 1) (refV p t x)).1 : Int) + p.za)) (y := Vi (((bestV p ((t : Int) + 1) (refV p t x)).2 : Int) + 0)) (fun W => Try.siz69 W) rfl rfl
    refine Y.punit F (X.w0 rfl) rfl (X.store rfl (F.e 4 rfl) (F.e 67 rfl) hrun) ?_
    clear F ac hrun
    intro ac F
    replace G := Gr.refl w81
    replace hq := hq.only hon (by show ¬ _ = _; omega)
    replace hM := hM.only hon (by show ¬ _ = _; omega)
    replace hV20 := hV20.only hon (by show ¬ _ = _; omega)
    replace hV22 := hV22.only hon (by show ¬ _ = _; omega)
    replace hV29 := hV29.only hon (by show ¬ _ = _; omega)
    replace hV50 := hV50.only hon (by show ¬ _ = _; omega)
    replace hV53 := hV53.only hon (by show ¬ _ = _; omega)
    replace hV65 := hV65.only hon (by show ¬ _ = _; omega)
    replace hC := (hC.kc hon 0 rfl (hC.kc hon 1 rfl (hC.kc hon 2 rfl (hC.kc hon 3 rfl (hC.kc hon 4 rfl (hC.kc hon 5 rfl (hC.kc hon 6 rfl (hC.kc hon 7 rfl (hC.kc hon 8 rfl (hC.kc hon 9 rfl (hC.kc hon 10 rfl (hC.kc hon 11 rfl (hC.kc hon 12 rfl (hC.kc hon 13 rfl (hC.kc hon 14 rfl (hC.kc hon 15 rfl (RCells.nil _)))))))))))))))))
    replace hE := hE.step hon (.inr (by omega))
    replace hV6 := hS2
    clear hS2 hon
    refine Y.nil ?_
    replace F : Fr ac 68 [(0, Vp bq), (1, .agg #[Vi t, Vi x]), (3, Vp w.heap.size), (4, Vp w5.heap.size), (5, Vp bk20), (6, .bool false), (7, Vp w21.heap.size), (8, Vp w28.heap.size), (9, Vp bk50), (10, Vp w52.heap.size), (11, Vp w64.heap.size), (12, .bool false), (20, .bool false), (31, .bool false), (51, .bool false)] := F.sub _
    refine X.thenN ?_
    refine Y.ret ?_
    exact Y.ret0 (v := .agg #[Vi (((bestV p ((t : Int) + 1) (refV p t x)).1 : Int) + p.za), Vi (((bestV p ((t : Int) + 1) (refV p t x)).2 : Int) + 0)]) F (Y.rc1 F rfl (Try.agg69 _) (Try.siz69 _) (by kernel_rfl) hV6) ⟨by rw [show bestV p t x = (((bestV p ((t : Int) + 1) (refV p t x)).1 : Int) + p.za, ((bestV p ((t : Int) + 1) (refV p t x)).2 : Int) + 0) from by rw [bestV_stay htT hwk]; rfl], hE, hM⟩
   ·have hwk := hwk
    have hwb := wkV_bd h (t := t) (a := refV p t x) (by omega) hrb.2 (wkN p t)
    have hwn := wkN_bd h ht.1 htT
    have hwh := wkN_hold hh0 t
    have hby := bestV_bd h (t := (t : Int) + 1 + ((wkN p t : Nat) : Int)) (x := (wkV p t (refV p t x) (wkN p t)).1) (by omega) hwb.1.1 hwb.1.2
    refine Y.pcall F (X.w0 rfl) rfl (X.enter (F := 61) rfl (X.kc (.func (.func 61) #[] #[]) rfl) (X.a2 (F.e 45 rfl) (F.e 46 rfl)) (enters_of Try.func61 (by kernel_rfl) rfl _)) ((wake_any bq bm gq p t x w49 hq h (by omega) (by omega)).mono (fun e w h => by rw [if_neg hwk] at h; exact h)) ?_
    clear F ac
    rintro e w82 ⟨rfl, g⟩
    refine ⟨_, rfl, ?_⟩
    intro ac F
    replace G := G.trans g
    replace hC := hC.gr g
    replace hE := hE.thenGr g
    replace hq := hq.gr g
    replace hM := hM.gr g
    replace hV6 := hV6.gr g
    replace hV20 := hV20.gr g
    replace hV22 := hV22.gr g
    replace hV29 := hV29.gr g
    replace hV50 := hV50.gr g
    clear g
    refine Y.pv F (X.move rfl (F.e 47 rfl)) ?_;clear F ac;intro ac F
    refine Y.pv F (X.extract rfl (F.e 44 rfl) rfl) ?_;clear F ac;intro ac F
    refine Y.pv F (X.extract rfl (F.e 44 rfl) rfl) ?_;clear F ac;intro ac F
    refine Y.pv F (X.extract rfl (F.e 44 rfl) rfl) ?_;clear F ac;intro ac F
    refine Y.pv F (Y.al rfl (Try.new72 _)) ?_;clear F ac;intro ac F
    have hgshV83 := G.size
    have hq84 : w5.heap.size < w82.heap.size := hV6.lt
    have hq85 : bk20 < w82.heap.size := hV20.lt
    have hq86 : w21.heap.size < w82.heap.size := hV22.lt
    have hq87 : w28.heap.size < w82.heap.size := hV29.lt
    have hq88 : bk50 < w82.heap.size := hV50.lt
    have hq89 : bq < w82.heap.size := lt_cell (hC.at 0 rfl)
    have hq90 : w.heap.size < w82.heap.size := lt_cell (hC.at 8 rfl)
    have hq91 : w21.heap.size < w82.heap.size := lt_cell (hC.at 10 rfl)
    have hq92 : w28.heap.size < w82.heap.size := lt_cell (hC.at 12 rfl)
    have hq93 : bm < w82.heap.size := hM.lt
    have g := Gr.alloc w82 (.cells #[Vi 0, Vi 0] 72)
    have hb := heap_alloc_new w82 (.cells #[Vi 0, Vi 0] 72)
    have hbl : w82.heap.size < (w82.alloc (.cells #[Vi 0, Vi 0] 72)).heap.size := by simp
    generalize w82.alloc (.cells #[Vi 0, Vi 0] 72) = w94 at *
    replace G := G.trans g
    replace hC := hC.gr g
    replace hE := hE.thenGr g
    replace hq := hq.gr g
    replace hM := hM.gr g
    replace hV6 := hV6.gr g
    replace hV20 := hV20.gr g
    replace hV22 := hV22.gr g
    replace hV29 := hV29.gr g
    replace hV50 := hV50.gr g
    have hV83 := ownP_2 hb
    clear g hb hbl
    refine Y.pv F (Y.al rfl (Try.new69 _)) ?_;clear F ac;intro ac F
    have hgshV95 := G.size
    have hq96 : w5.heap.size < w94.heap.size := hV6.lt
    have hq97 : bk20 < w94.heap.size := hV20.lt
    have hq98 : w21.heap.size < w94.heap.size := hV22.lt
    have hq99 : w28.heap.size < w94.heap.size := hV29.lt
    have hq100 : bk50 < w94.heap.size := hV50.lt
    have hq101 : w82.heap.size < w94.heap.size := hV83.lt
    have hq102 : bq < w94.heap.size := lt_cell (hC.at 0 rfl)
    have hq103 : w.heap.size < w94.heap.size := lt_cell (hC.at 8 rfl)
    have hq104 : w21.heap.size < w94.heap.size := lt_cell (hC.at 10 rfl)
    have hq105 : w28.heap.size < w94.heap.size := lt_cell (hC.at 12 rfl)
    have hq106 : bm < w94.heap.size := hM.lt
    have g := Gr.alloc w94 (.cells #[Vi 0, Vi 0] 69)
    have hb := heap_alloc_new w94 (.cells #[Vi 0, Vi 0] 69)
    have hbl : w94.heap.size < (w94.alloc (.cells #[Vi 0, Vi 0] 69)).heap.size := by simp
    generalize w94.alloc (.cells #[Vi 0, Vi 0] 69) = w107 at *
    replace G := G.trans g
    replace hC := hC.gr g
    replace hE := hE.thenGr g
    replace hq := hq.gr g
    replace hM := hM.gr g
    replace hV6 := hV6.gr g
    replace hV20 := hV20.gr g
    replace hV22 := hV22.gr g
    replace hV29 := hV29.gr g
    replace hV50 := hV50.gr g
    replace hV83 := hV83.gr g
    have hV95 := ownP_2 hb
    clear g hb hbl
    obtain ⟨w108, hrun, hS2, hon⟩ := hV83.st2 (P := Try.prog) (t := 72) (x := Vi ((t : Int) + 1 + ((wkN p t : Nat) : Int))) (y := Vi ((wkV p t (refV p t x) (wkN p t)).1)) (fun W => Try.siz72 W) rfl rfl
    refine Y.punit F (X.w0 rfl) rfl (X.store rfl (F.e 10 rfl) (F.e 48 rfl) hrun) ?_
    clear F ac hrun
    intro ac F
    replace G := Gr.refl w108
    replace hq := hq.only hon (by show ¬ _ = _; omega)
    replace hM := hM.only hon (by show ¬ _ = _; omega)
    replace hV6 := hV6.only hon (by show ¬ _ = _; omega)
    replace hV20 := hV20.only hon (by show ¬ _ = _; omega)
    replace hV22 := hV22.only hon (by show ¬ _ = _; omega)
    replace hV29 := hV29.only hon (by show ¬ _ = _; omega)
    replace hV50 := hV50.only hon (by show ¬ _ = _; omega)
    replace hV95 := hV95.only hon (by show ¬ _ = _; omega)
    replace hC := (hC.kc hon 0 rfl (hC.kc hon 1 rfl (hC.kc hon 2 rfl (hC.kc hon 3 rfl (hC.kc hon 4 rfl (hC.kc hon 5 rfl (hC.kc hon 6 rfl (hC.kc hon 7 rfl (hC.kc hon 8 rfl (hC.kc hon 9 rfl (hC.kc hon 10 rfl (hC.kc hon 11 rfl (hC.kc hon 12 rfl (hC.kc hon 13 rfl (RCells.nil _)))))))))))))))
    replace hE := hE.step hon (.inr (by omega))
    replace hV83 := hS2
    clear hS2 hon
    obtain ⟨w109, hrun, hS2, hon⟩ := hV95.st2 (P := Try.prog) (t := 69) (x := Vi ((wkV p t (refV p t x) (wkN p t)).2)) (y := Vi 1) (fun W => Try.siz69 W) rfl rfl
    refine Y.punit F (X.w0 rfl) rfl (X.store rfl (F.e 11 rfl) (F.e 49 rfl) hrun) ?_
    clear F ac hrun
    intro ac F
    replace G := Gr.refl w109
    replace hq := hq.only hon (by show ¬ _ = _; omega)
    replace hM := hM.only hon (by show ¬ _ = _; omega)
    replace hV6 := hV6.only hon (by show ¬ _ = _; omega)
    replace hV20 := hV20.only hon (by show ¬ _ = _; omega)
    replace hV22 := hV22.only hon (by show ¬ _ = _; omega)
    replace hV29 := hV29.only hon (by show ¬ _ = _; omega)
    replace hV50 := hV50.only hon (by show ¬ _ = _; omega)
    replace hV83 := hV83.only hon (by show ¬ _ = _; omega)
    replace hC := (hC.kc hon 0 rfl (hC.kc hon 1 rfl (hC.kc hon 2 rfl (hC.kc hon 3 rfl (hC.kc hon 4 rfl (hC.kc hon 5 rfl (hC.kc hon 6 rfl (hC.kc hon 7 rfl (hC.kc hon 8 rfl (hC.kc hon 9 rfl (hC.kc hon 10 rfl (hC.kc hon 11 rfl (hC.kc hon 12 rfl (hC.kc hon 13 rfl (RCells.nil _)))))))))))))))
    replace hE := hE.step hon (.inr (by omega))
    replace hV95 := hS2
    clear hS2 hon
    refine Y.pv F (X.assign rfl (F.e 50 rfl)) ?_;clear F ac;intro ac F
    refine Y.nil ?_
    replace F : Fr ac 68 [(0, Vp bq), (1, .agg #[Vi t, Vi x]), (3, Vp w.heap.size), (4, Vp w5.heap.size), (5, Vp bk20), (6, .bool false), (7, Vp w21.heap.size), (8, Vp w28.heap.size), (9, Vp bk50), (10, Vp w82.heap.size), (11, Vp w94.heap.size), (12, .bool true), (20, .bool false), (31, .bool false)] := F.sub _
    refine X.thenN ?_
    refine Y.seq ?_
    refine Y.lit (by kernel_rfl) ?_
    refine Y.pv F (X.move rfl (F.e 12 rfl)) ?_;clear F ac;intro ac F
    refine Y.nil ?_
    replace F : Fr ac 68 [(0, Vp bq), (1, .agg #[Vi t, Vi x]), (3, Vp w.heap.size), (4, Vp w5.heap.size), (5, Vp bk20), (6, .bool false), (7, Vp w21.heap.size), (8, Vp w28.heap.size), (9, Vp bk50), (10, Vp w82.heap.size), (11, Vp w94.heap.size), (12, .bool true), (20, .bool false), (31, .bool false), (51, .bool true)] := F.sub _
    refine X.thenN ?_
    refine Y.condT (F.e 51 rfl) ?_
    refine Y.seq ?_
    replace hC : RCells w109 [(Ad bq 0, Vi gq), (Ad bq 1, Vi p.aw), (Ad bq 2, Vi p.za), (Ad bq 3, Vi p.bu), (Ad bq 4, Vi p.re), (Ad bq 5, Vi p.hold), (Ad bq 6, Vi p.T), (Ad bq 7, .map (some bm)), (Ad w.heap.size 0, Vi t), (Ad w.heap.size 1, Vi x), (Ad w21.heap.size 0, Vi ((t : Int) + 1)), (Ad w21.heap.size 1, Vi (refV p t x)), (Ad w28.heap.size 0, Vi p.za), (Ad w28.heap.size 1, Vi 0), (Ad w82.heap.size 0, Vi ((t : Int) + 1 + ((wkN p t : Nat) : Int)))] := hC.append ((RCells.cons (hV83.cell (k := 0) (by decide)) (RCells.nil _)))
    replace hC : RCells w109 [(Ad bq 0, Vi gq), (Ad bq 1, Vi p.aw), (Ad bq 2, Vi p.za), (Ad bq 3, Vi p.bu), (Ad bq 4, Vi p.re), (Ad bq 5, Vi p.hold), (Ad bq 6, Vi p.T), (Ad bq 7, .map (some bm)), (Ad w.heap.size 0, Vi t), (Ad w.heap.size 1, Vi x), (Ad w21.heap.size 0, Vi ((t : Int) + 1)), (Ad w21.heap.size 1, Vi (refV p t x)), (Ad w28.heap.size 0, Vi p.za), (Ad w28.heap.size 1, Vi 0), (Ad w82.heap.size 0, Vi ((t : Int) + 1 + ((wkN p t : Nat) : Int))), (Ad w82.heap.size 1, Vi ((wkV p t (refV p t x) (wkN p t)).1))] := hC.append ((RCells.cons (hV83.cell (k := 1) (by decide)) (RCells.nil _)))
    replace hC : RCells w109 [(Ad bq 0, Vi gq), (Ad bq 1, Vi p.aw), (Ad bq 2, Vi p.za), (Ad bq 3, Vi p.bu), (Ad bq 4, Vi p.re), (Ad bq 5, Vi p.hold), (Ad bq 6, Vi p.T), (Ad bq 7, .map (some bm)), (Ad w.heap.size 0, Vi t), (Ad w.heap.size 1, Vi x), (Ad w21.heap.size 0, Vi ((t : Int) + 1)), (Ad w21.heap.size 1, Vi (refV p t x)), (Ad w28.heap.size 0, Vi p.za), (Ad w28.heap.size 1, Vi 0), (Ad w82.heap.size 0, Vi ((t : Int) + 1 + ((wkN p t : Nat) : Int))), (Ad w82.heap.size 1, Vi ((wkV p t (refV p t x) (wkN p t)).1)), (Ad w94.heap.size 0, Vi ((wkV p t (refV p t x) (wkN p t)).2))] := hC.append ((RCells.cons (hV95.cell (k := 0) (by decide)) (RCells.nil _)))
    replace hC : RCells w109 [(Ad bq 0, Vi gq), (Ad bq 1, Vi p.aw), (Ad bq 2, Vi p.za), (Ad bq 3, Vi p.bu), (Ad bq 4, Vi p.re), (Ad bq 5, Vi p.hold), (Ad bq 6, Vi p.T), (Ad bq 7, .map (some bm)), (Ad w.heap.size 0, Vi t), (Ad w.heap.size 1, Vi x), (Ad w21.heap.size 0, Vi ((t : Int) + 1)), (Ad w21.heap.size 1, Vi (refV p t x)), (Ad w28.heap.size 0, Vi p.za), (Ad w28.heap.size 1, Vi 0), (Ad w82.heap.size 0, Vi ((t : Int) + 1 + ((wkN p t : Nat) : Int))), (Ad w82.heap.size 1, Vi ((wkV p t (refV p t x) (wkN p t)).1)), (Ad w94.heap.size 0, Vi ((wkV p t (refV p t x) (wkN p t)).2)), (Ad w94.heap.size 1, Vi 1)] := hC.append ((RCells.cons (hV95.cell (k := 1) (by decide)) (RCells.nil _)))
    have hq110 : w5.heap.size < w109.heap.size := hV6.lt
    have hq111 : bk20 < w109.heap.size := hV20.lt
    have hq112 : w21.heap.size < w109.heap.size := hV22.lt
    have hq113 : w28.heap.size < w109.heap.size := hV29.lt
    have hq114 : bk50 < w109.heap.size := hV50.lt
    have hq115 : w82.heap.size < w109.heap.size := hV83.lt
    have hq116 : w94.heap.size < w109.heap.size := hV95.lt
    have hq117 : bq < w109.heap.size := lt_cell (hC.at 0 rfl)
    have hq118 : w.heap.size < w109.heap.size := lt_cell (hC.at 8 rfl)
    have hq119 : w21.heap.size < w109.heap.size := lt_cell (hC.at 10 rfl)
    have hq120 : w28.heap.size < w109.heap.size := lt_cell (hC.at 12 rfl)
    have hq121 : w82.heap.size < w109.heap.size := lt_cell (hC.at 14 rfl)
    have hq122 : w94.heap.size < w109.heap.size := lt_cell (hC.at 16 rfl)
    have hq123 : bm < w109.heap.size := hM.lt
    have hmlt := hM.lt
    have hmlt124 := hmlt
    refine region_xi F [some (Vp bq), some (.agg #[Vi ((t : Int) + 1 + ((wkN p t : Nat) : Int)), Vi ((wkV p t (refV p t x) (wkN p t)).1)]), some (.agg #[Vi ((bestV p ((t : Int) + 1 + ((wkN p t : Nat) : Int)) ((wkV p t (refV p t x) (wkN p t)).1)).1), Vi ((bestV p ((t : Int) + 1 + ((wkN p t : Nat) : Int)) ((wkV p t (refV p t x) (wkN p t)).1)).2)]), some (.agg #[Vi ((wkV p t (refV p t x) (wkN p t)).2), Vi 1]), some (.agg #[Vi (((bestV p ((t : Int) + 1 + ((wkN p t : Nat) : Int)) ((wkV p t (refV p t x) (wkN p t)).1)).1 : Int) + ((wkV p t (refV p t x) (wkN p t)).2)), Vi (((bestV p ((t : Int) + 1 + ((wkN p t : Nat) : Int)) ((wkV p t (refV p t x) (wkN p t)).1)).2 : Int) + 1)]), none, none] (RTk w109 (fun b => b = bm) (fun W => Memo W bm (gdV p)) 5 6 (VL [Vi 0, Vi 0]) (VL [Vi (((bestV p ((t : Int) + 1 + ((wkN p t : Nat) : Int)) ((wkV p t (refV p t x) (wkN p t)).1)).1 : Int) + ((wkV p t (refV p t x) (wkN p t)).2)), Vi (((bestV p ((t : Int) + 1 + ((wkN p t : Nat) : Int)) ((wkV p t (refV p t x) (wkN p t)).1)).2 : Int) + 1)])) rfl ⟨by kernel_rfl, of_decide_eq_true (by kernel_rfl), by kernel_rfl, by kernel_rfl, by kernel_rfl⟩ (fun _ => ⟨RTk.start (Gr.refl _) hM, RTk.start (Gr.drew _) (hM.gr (Gr.drew _))⟩) ⟨?_, ?_, ?_, ?_, ?_, ?_, ?_, trivial⟩ ?_
    ·intro ac done u W Sx hR
     exact X.vl (X.move rfl (Sx.ev 0 (Vp bq))) (hR.quiet (by decide))
    ·intro ac done u W Sx hR
     exact X.vl (X.load rfl (Sx.ev 10 (Vp w82.heap.size)) (X.ldN (Try.agg72 _) (Try.siz72 _) (Y.atz (⟨w82.heap.size, 0, none⟩) (Y.AtFrom.cons (hR.o.cell (hC.at 14 rfl) (by show ¬ w82.heap.size = bm; omega)) (Y.AtFrom.cons (hR.o.cell (hC.at 15 rfl) (by show ¬ w82.heap.size = bm; omega)) (Y.AtFrom.nil _ _ _)))))) (hR.quiet (by decide))
    ·intro ac done u W Sx hR
     refine X.call (X.w0 rfl) (X.enter (F := 48) rfl (X.kc (.func (.func 48) #[] #[]) rfl) (X.a2 (Sx.ev 52 (Vp bq)) (Sx.ev 53 (.agg #[Vi ((t : Int) + 1 + ((wkN p t : Nat) : Int)), Vi ((wkV p t (refV p t x) (wkN p t)).1)]))) (enters_of Try.func48 (by kernel_rfl) rfl _)) (ih htT ((t : Int) + 1 + ((wkN p t : Nat) : Int)) ((wkV p t (refV p t x) (wkN p t)).1) W (by omega) ⟨by omega, by omega⟩ ⟨by omega, by omega⟩ (hq.only hR.o (by show ¬ bq = bm; omega)) hR.m) ?_
     rintro e W2 ⟨rfl, hon, hM2⟩
     exact ⟨_, rfl, X.kn rfl, hR.call (by decide) (fun b e => by subst e; exact hmlt) hon hM2⟩
    ·intro ac done u W Sx hR
     exact X.vl (X.load rfl (Sx.ev 11 (Vp w94.heap.size)) (X.ldN (Try.agg69 _) (Try.siz69 _) (Y.atz (⟨w94.heap.size, 0, none⟩) (Y.AtFrom.cons (hR.o.cell (hC.at 16 rfl) (by show ¬ w94.heap.size = bm; omega)) (Y.AtFrom.cons (hR.o.cell (hC.at 17 rfl) (by show ¬ w94.heap.size = bm; omega)) (Y.AtFrom.nil _ _ _)))))) (hR.quiet (by decide))
    ·intro ac done u W Sx hR
     refine X.call (X.w0 rfl) (X.enter (F := 62) rfl (X.kc (.func (.func 62) #[] #[]) rfl) (X.a2 (Sx.ev 54 (.agg #[Vi ((bestV p ((t : Int) + 1 + ((wkN p t : Nat) : Int)) ((wkV p t (refV p t x) (wkN p t)).1)).1), Vi ((bestV p ((t : Int) + 1 + ((wkN p t : Nat) : Int)) ((wkV p t (refV p t x) (wkN p t)).1)).2)])) (Sx.ev 55 (.agg #[Vi ((wkV p t (refV p t x) (wkN p t)).2), Vi 1]))) (enters_of Try.func62 (by kernel_rfl) rfl _)) (and_any ((bestV p ((t : Int) + 1 + ((wkN p t : Nat) : Int)) ((wkV p t (refV p t x) (wkN p t)).1)).1) ((bestV p ((t : Int) + 1 + ((wkN p t : Nat) : Int)) ((wkV p t (refV p t x) (wkN p t)).1)).2) ((wkV p t (refV p t x) (wkN p t)).2) 1 W (by omega) (by omega)) ?_
     rintro e W2 ⟨rfl, g2⟩
     exact ⟨_, rfl, X.kn rfl, hR.call (by decide) (fun b e => by subst e; exact hmlt) (g2.only _) (hR.m.gr g2)⟩
    ·intro ac done u W Sx hR
     exact X.valN (X.w0 rfl) rfl (Y.al rfl (Try.new69 _)) (hR.alloc (by decide) (Sx.no 6 (by kernel_rfl)) hR.o.size (Gr.alloc _ _) (hR.m.gr (Gr.alloc _ _)) (ownP_2 (World.alloc_heap_new _ _)))
    ·intro ac done u W Sx hR
     obtain ⟨b_, eb, hge, hz, -⟩ := hR.q (Sx.an 5 (by kernel_rfl))
     obtain ⟨W2, hrun, hS2, hon⟩ := (hz Sx.nd).st2 (P := Try.prog) (t := 69) (x := Vi (((bestV p ((t : Int) + 1 + ((wkN p t : Nat) : Int)) ((wkV p t (refV p t x) (wkN p t)).1)).1 : Int) + ((wkV p t (refV p t x) (wkN p t)).2))) (y := Vi (((bestV p ((t : Int) + 1 + ((wkN p t : Nat) : Int)) ((wkV p t (refV p t x) (wkN p t)).1)).2 : Int) + 1)) (fun W => Try.siz69 W) rfl rfl
     exact X.unit (X.w0 rfl) rfl (X.store rfl ((Sx.own 5 13 rfl).trans eb) (Sx.ev 56 (.agg #[Vi (((bestV p ((t : Int) + 1 + ((wkN p t : Nat) : Int)) ((wkV p t (refV p t x) (wkN p t)).1)).1 : Int) + ((wkV p t (refV p t x) (wkN p t)).2)), Vi (((bestV p ((t : Int) + 1 + ((wkN p t : Nat) : Int)) ((wkV p t (refV p t x) (wkN p t)).1)).2 : Int) + 1)])) hrun) (hR.st (by decide) eb hge (hR.m.only hon (by show ¬ _ = _; omega)) hon hS2)
    rintro ac u w125 hs hd hl_ ho hR
    replace F : Fr ac 68 [(0, Vp bq), (1, .agg #[Vi t, Vi x]), (3, Vp w.heap.size), (4, Vp w5.heap.size), (5, Vp bk20), (6, .bool false), (7, Vp w21.heap.size), (8, Vp w28.heap.size), (9, Vp bk50), (10, Vp w82.heap.size), (11, Vp w94.heap.size), (12, .bool true), (20, .bool false), (31, .bool false), (51, .bool true)] := X.fr hs hd hl_ _ (by kernel_rfl)
    obtain ⟨bk126, eb, hge126, -, hn⟩ := hR.q rfl
    have hV126 := hn rfl
    replace F := F.add (ho 5 13 rfl) eb
    replace F : Fr ac 68 [(0, Vp bq), (1, .agg #[Vi t, Vi x]), (3, Vp w.heap.size), (4, Vp w5.heap.size), (5, Vp bk20), (6, .bool false), (7, Vp w21.heap.size), (8, Vp w28.heap.size), (9, Vp bk50), (10, Vp w82.heap.size), (11, Vp w94.heap.size), (12, .bool true), (13, Vp bk126), (20, .bool false), (31, .bool false), (51, .bool true)] := F.sub _
    clear eb hn
    have hon := hR.o
    replace G := Gr.refl w125
    replace hq := hq.only hon (by show ¬ bq = bm; omega)
    replace hM := hR.m
    replace hV6 := hV6.only hon (by show ¬ w5.heap.size = bm; omega)
    replace hV20 := hV20.only hon (by show ¬ bk20 = bm; omega)
    replace hV22 := hV22.only hon (by show ¬ w21.heap.size = bm; omega)
    replace hV29 := hV29.only hon (by show ¬ w28.heap.size = bm; omega)
    replace hV50 := hV50.only hon (by show ¬ bk50 = bm; omega)
    replace hV83 := hV83.only hon (by show ¬ w82.heap.size = bm; omega)
    replace hV95 := hV95.only hon (by show ¬ w94.heap.size = bm; omega)
    replace hC := (hC.kc hon 0 rfl (hC.kc hon 1 rfl (hC.kc hon 2 rfl (hC.kc hon 3 rfl (hC.kc hon 4 rfl (hC.kc hon 5 rfl (hC.kc hon 6 rfl (hC.kc hon 7 rfl (hC.kc hon 8 rfl (hC.kc hon 9 rfl (hC.kc hon 10 rfl (hC.kc hon 11 rfl (hC.kc hon 12 rfl (hC.kc hon 13 rfl (hC.kc hon 14 rfl (hC.kc hon 15 rfl (hC.kc hon 16 rfl (hC.kc hon 17 rfl (RCells.nil _)))))))))))))))))))
    replace hE := hE.trans hon
    have hbk126 : bk126 < w125.heap.size := hV126.lt
    clear hs hd hl_ ho hR hon
    refine X.thenN ?_
    refine Y.seq ?_
    refine Y.lit (by kernel_rfl) ?_
    replace hC : RCells w125 [(Ad bq 0, Vi gq), (Ad bq 1, Vi p.aw), (Ad bq 2, Vi p.za), (Ad bq 3, Vi p.bu), (Ad bq 4, Vi p.re), (Ad bq 5, Vi p.hold), (Ad bq 6, Vi p.T), (Ad bq 7, .map (some bm)), (Ad w.heap.size 0, Vi t), (Ad w.heap.size 1, Vi x), (Ad w21.heap.size 0, Vi ((t : Int) + 1)), (Ad w21.heap.size 1, Vi (refV p t x)), (Ad w28.heap.size 0, Vi p.za), (Ad w28.heap.size 1, Vi 0), (Ad w82.heap.size 0, Vi ((t : Int) + 1 + ((wkN p t : Nat) : Int))), (Ad w82.heap.size 1, Vi ((wkV p t (refV p t x) (wkN p t)).1)), (Ad w94.heap.size 0, Vi ((wkV p t (refV p t x) (wkN p t)).2)), (Ad w94.heap.size 1, Vi 1), (Ad bk126 0, Vi (((bestV p ((t : Int) + 1 + ((wkN p t : Nat) : Int)) ((wkV p t (refV p t x) (wkN p t)).1)).1 : Int) + ((wkV p t (refV p t x) (wkN p t)).2)))] := hC.append ((RCells.cons (hV126.cell (k := 0) (by decide)) (RCells.nil _)))
    replace hC : RCells w125 [(Ad bq 0, Vi gq), (Ad bq 1, Vi p.aw), (Ad bq 2, Vi p.za), (Ad bq 3, Vi p.bu), (Ad bq 4, Vi p.re), (Ad bq 5, Vi p.hold), (Ad bq 6, Vi p.T), (Ad bq 7, .map (some bm)), (Ad w.heap.size 0, Vi t), (Ad w.heap.size 1, Vi x), (Ad w21.heap.size 0, Vi ((t : Int) + 1)), (Ad w21.heap.size 1, Vi (refV p t x)), (Ad w28.heap.size 0, Vi p.za), (Ad w28.heap.size 1, Vi 0), (Ad w82.heap.size 0, Vi ((t : Int) + 1 + ((wkN p t : Nat) : Int))), (Ad w82.heap.size 1, Vi ((wkV p t (refV p t x) (wkN p t)).1)), (Ad w94.heap.size 0, Vi ((wkV p t (refV p t x) (wkN p t)).2)), (Ad w94.heap.size 1, Vi 1), (Ad bk126 0, Vi (((bestV p ((t : Int) + 1 + ((wkN p t : Nat) : Int)) ((wkV p t (refV p t x) (wkN p t)).1)).1 : Int) + ((wkV p t (refV p t x) (wkN p t)).2))), (Ad bk126 1, Vi (((bestV p ((t : Int) + 1 + ((wkN p t : Nat) : Int)) ((wkV p t (refV p t x) (wkN p t)).1)).2 : Int) + 1))] := hC.append ((RCells.cons (hV126.cell (k := 1) (by decide)) (RCells.nil _)))
    refine Y.pv F (X.load rfl (F.e 13 rfl) (X.ldN (Try.agg69 _) (Try.siz69 _) (Y.atz (⟨bk126, 0, none⟩) (Y.AtFrom.cons (hC.at 18 rfl) (Y.AtFrom.cons (hC.at 19 rfl) (Y.AtFrom.nil _ _ _)))))) ?_;clear F ac;intro ac F
    replace hC : RCells w125 [(Ad bq 0, Vi gq), (Ad bq 1, Vi p.aw), (Ad bq 2, Vi p.za), (Ad bq 3, Vi p.bu), (Ad bq 4, Vi p.re), (Ad bq 5, Vi p.hold), (Ad bq 6, Vi p.T), (Ad bq 7, .map (some bm)), (Ad w.heap.size 0, Vi t), (Ad w.heap.size 1, Vi x), (Ad w21.heap.size 0, Vi ((t : Int) + 1)), (Ad w21.heap.size 1, Vi (refV p t x)), (Ad w28.heap.size 0, Vi p.za), (Ad w28.heap.size 1, Vi 0), (Ad w82.heap.size 0, Vi ((t : Int) + 1 + ((wkN p t : Nat) : Int))), (Ad w82.heap.size 1, Vi ((wkV p t (refV p t x) (wkN p t)).1)), (Ad w94.heap.size 0, Vi ((wkV p t (refV p t x) (wkN p t)).2)), (Ad w94.heap.size 1, Vi 1), (Ad bk126 0, Vi (((bestV p ((t : Int) + 1 + ((wkN p t : Nat) : Int)) ((wkV p t (refV p t x) (wkN p t)).1)).1 : Int) + ((wkV p t (refV p t x) (wkN p t)).2))), (Ad bk126 1, Vi (((bestV p ((t : Int) + 1 + ((wkN p t : Nat) : Int)) ((wkV p t (refV p t x) (wkN p t)).1)).2 : Int) + 1)), (Ad bk50 0, Vi (((bestV p ((t : Int) + 1) (refV p t x)).1 : Int) + p.za))] := hC.append ((RCells.cons (hV50.cell (k := 0) (by decide)) (RCells.nil _)))
    replace hC : RCells w125 [(Ad bq 0, Vi gq), (Ad bq 1, Vi p.aw), (Ad bq 2, Vi p.za), (Ad bq 3, Vi p.bu), (Ad bq 4, Vi p.re), (Ad bq 5, Vi p.hold), (Ad bq 6, Vi p.T), (Ad bq 7, .map (some bm)), (Ad w.heap.size 0, Vi t), (Ad w.heap.size 1, Vi x), (Ad w21.heap.size 0, Vi ((t : Int) + 1)), (Ad w21.heap.size 1, Vi (refV p t x)), (Ad w28.heap.size 0, Vi p.za), (Ad w28.heap.size 1, Vi 0), (Ad w82.heap.size 0, Vi ((t : Int) + 1 + ((wkN p t : Nat) : Int))), (Ad w82.heap.size 1, Vi ((wkV p t (refV p t x) (wkN p t)).1)), (Ad w94.heap.size 0, Vi ((wkV p t (refV p t x) (wkN p t)).2)), (Ad w94.heap.size 1, Vi 1), (Ad bk126 0, Vi (((bestV p ((t : Int) + 1 + ((wkN p t : Nat) : Int)) ((wkV p t (refV p t x) (wkN p t)).1)).1 : Int) + ((wkV p t (refV p t x) (wkN p t)).2))), (Ad bk126 1, Vi (((bestV p ((t : Int) + 1 + ((wkN p t : Nat) : Int)) ((wkV p t (refV p t x) (wkN p t)).1)).2 : Int) + 1)), (Ad bk50 0, Vi (((bestV p ((t : Int) + 1) (refV p t x)).1 : Int) + p.za)), (Ad bk50 1, Vi (((bestV p ((t : Int) + 1) (refV p t x)).2 : Int) + 0))] := hC.append ((RCells.cons (hV50.cell (k := 1) (by decide)) (RCells.nil _)))
    refine Y.pv F (X.load rfl (F.e 9 rfl) (X.ldN (Try.agg69 _) (Try.siz69 _) (Y.atz (⟨bk50, 0, none⟩) (Y.AtFrom.cons (hC.at 20 rfl) (Y.AtFrom.cons (hC.at 21 rfl) (Y.AtFrom.nil _ _ _)))))) ?_;clear F ac;intro ac F
    refine Y.pcall F (X.w0 rfl) rfl (X.enter (F := 74) rfl (X.kc (.func (.func 74) #[] #[]) rfl) (X.a2 (F.e 57 rfl) (F.e 58 rfl)) (enters_of Try.func74 (by kernel_rfl) rfl _)) (better_any (((bestV p ((t : Int) + 1 + ((wkN p t : Nat) : Int)) ((wkV p t (refV p t x) (wkN p t)).1)).1 : Int) + ((wkV p t (refV p t x) (wkN p t)).2)) (((bestV p ((t : Int) + 1 + ((wkN p t : Nat) : Int)) ((wkV p t (refV p t x) (wkN p t)).1)).2 : Int) + 1) (((bestV p ((t : Int) + 1) (refV p t x)).1 : Int) + p.za) (((bestV p ((t : Int) + 1) (refV p t x)).2 : Int) + 0) w125) ?_
    clear F ac
    rintro e w127 ⟨rfl, g⟩
    refine ⟨_, rfl, ?_⟩
    intro ac F
    replace G := G.trans g
    replace hC := hC.gr g
    replace hE := hE.thenGr g
    replace hq := hq.gr g
    replace hM := hM.gr g
    replace hV6 := hV6.gr g
    replace hV20 := hV20.gr g
    replace hV22 := hV22.gr g
    replace hV29 := hV29.gr g
    replace hV50 := hV50.gr g
    replace hV83 := hV83.gr g
    replace hV95 := hV95.gr g
    replace hV126 := hV126.gr g
    clear g
    refine Y.nil ?_
    replace F : Fr ac 68 [(0, Vp bq), (1, .agg #[Vi t, Vi x]), (3, Vp w.heap.size), (4, Vp w5.heap.size), (5, Vp bk20), (6, .bool false), (7, Vp w21.heap.size), (8, Vp w28.heap.size), (9, Vp bk50), (10, Vp w82.heap.size), (11, Vp w94.heap.size), (12, .bool true), (13, Vp bk126), (20, .bool false), (31, .bool false), (51, .bool true), (59, .bool (betB (((bestV p ((t : Int) + 1 + ((wkN p t : Nat) : Int)) ((wkV p t (refV p t x) (wkN p t)).1)).1 : Int) + ((wkV p t (refV p t x) (wkN p t)).2), ((bestV p ((t : Int) + 1 + ((wkN p t : Nat) : Int)) ((wkV p t (refV p t x) (wkN p t)).1)).2 : Int) + 1) (((bestV p ((t : Int) + 1) (refV p t x)).1 : Int) + p.za, ((bestV p ((t : Int) + 1) (refV p t x)).2 : Int) + 0)))] := F.sub _
    refine X.thenN ?_
    cases h128 : betB (((bestV p ((t : Int) + 1 + ((wkN p t : Nat) : Int)) ((wkV p t (refV p t x) (wkN p t)).1)).1 : Int) + ((wkV p t (refV p t x) (wkN p t)).2), ((bestV p ((t : Int) + 1 + ((wkN p t : Nat) : Int)) ((wkV p t (refV p t x) (wkN p t)).1)).2 : Int) + 1) (((bestV p ((t : Int) + 1) (refV p t x)).1 : Int) + p.za, ((bestV p ((t : Int) + 1) (refV p t x)).2 : Int) + 0) with
    | false =>
     try rw [h128] at F
     refine Y.condF (F.e 59 rfl) ?_
     refine Y.skip ?_
     refine X.thenN ?_
     refine Y.seq ?_
     refine Y.regionS F [some (Vp bq), some (Vp bq), some (.pointer (some ⟨bq, 7, none⟩)), some (.map (some bm)), some (.agg #[Vi t, Vi x]), some (.agg #[Vi (((bestV p ((t : Int) + 1) (refV p t x)).1 : Int) + p.za), Vi (((bestV p ((t : Int) + 1) (refV p t x)).2 : Int) + 0)]), none] [] 6 (fun _ W => Only (fun x => x = bm) w127 W ∧ Memo W bm (gdV p)) rfl ⟨by kernel_rfl, of_decide_eq_true (by kernel_rfl), by kernel_rfl, by kernel_rfl, by kernel_rfl⟩ (of_decide_eq_true (by kernel_rfl)) ⟨?_, ?_, ?_, ?_, ?_, ?_, ?_, trivial⟩ ?_
     ·intro ac done u W Sx hT
      have hs := Sx.no 6 (by kernel_rfl)
      have hR := hT.1 hs
      exact X.vl (X.move rfl (Sx.ev 0 (Vp bq))) (Y.RT.of hs rfl hR.st0)
     ·intro ac done u W Sx hT
      have hs := Sx.no 6 (by kernel_rfl)
      have hR := hT.1 hs
      exact X.vl (Y.nilC rfl (Sx.ev 61 (Vp bq))) (Y.RT.of hs rfl hR.st0)
     ·intro ac done u W Sx hT
      have hs := Sx.no 6 (by kernel_rfl)
      have hR := hT.1 hs
      exact X.vl (X.field rfl (Sx.ev 62 (Vp bq)) (X.fld Try.underlying110 rfl (Try.siz108 _) rfl rfl)) (Y.RT.of hs rfl hR.st0)
     ·intro ac done u W Sx hT
      have hs := Sx.no 6 (by kernel_rfl)
      have hR := hT.1 hs
      have g : Gr w127 W := hR.1
      exact X.vl (X.load rfl (Sx.ev 63 (.pointer (some ⟨bq, 7, none⟩))) (X.ld1 (Try.agg108 _) ((hC.gr g).at 7 rfl))) (Y.RT.of hs rfl hR.st0)
     ·intro ac done u W Sx hT
      have hs := Sx.no 6 (by kernel_rfl)
      have hR := hT.1 hs
      have g : Gr w127 W := hR.1
      exact X.vl (X.load rfl (Sx.ev 3 (Vp w.heap.size)) (X.ldN (Try.agg72 _) (Try.siz72 _) (Y.atz (⟨w.heap.size, 0, none⟩) (Y.AtFrom.cons ((hC.gr g).at 8 rfl) (Y.AtFrom.cons ((hC.gr g).at 9 rfl) (Y.AtFrom.nil _ _ _)))))) (Y.RT.of hs rfl hR.st0)
     ·intro ac done u W Sx hT
      have hs := Sx.no 6 (by kernel_rfl)
      have hR := hT.1 hs
      have g : Gr w127 W := hR.1
      exact X.vl (X.load rfl (Sx.ev 9 (Vp bk50)) (X.ldN (Try.agg69 _) (Try.siz69 _) (Y.atz (⟨bk50, 0, none⟩) (Y.AtFrom.cons ((hC.gr g).at 20 rfl) (Y.AtFrom.cons ((hC.gr g).at 21 rfl) (Y.AtFrom.nil _ _ _)))))) (Y.RT.of hs rfl hR.st0)
     ·intro ac done u W Sx hT
      have hR := hT.1 Sx.nd
      have g : Gr w127 W := hR.1
      obtain ⟨W2, hrun, hM2, hon⟩ := memo_store (t := 108) (e := 69) (v := .agg #[Vi (((bestV p ((t : Int) + 1) (refV p t x)).1 : Int) + p.za), Vi (((bestV p ((t : Int) + 1) (refV p t x)).2 : Int) + 0)]) Try.underlying108 (hM.gr g) hsm (by show (.agg #[Vi (((bestV p ((t : Int) + 1) (refV p t x)).1 : Int) + p.za), Vi (((bestV p ((t : Int) + 1) (refV p t x)).2 : Int) + 0)] : Value) = gfV p t x; unfold gfV; rw [show bestV p t x = (((bestV p ((t : Int) + 1) (refV p t x)).1 : Int) + p.za, ((bestV p ((t : Int) + 1) (refV p t x)).2 : Int) + 0) from by rw [bestV_wake htT hwk]; unfold pick2; exact if_neg (fun e => by have e2 := (h128).symm.trans e; cases e2)])
      exact X.unit (X.w0 rfl) rfl (X.mu rfl (Sx.ev 64 (.map (some bm))) (Sx.ev 65 (.agg #[Vi t, Vi x])) (Sx.ev 66 (.agg #[Vi (((bestV p ((t : Int) + 1) (refV p t x)).1 : Int) + p.za), Vi (((bestV p ((t : Int) + 1) (refV p t x)).2 : Int) + 0)])) hrun) (Y.RT.fin ⟨(g.only _).trans hon, hM2⟩)
     rintro ac u w129 hs hd hl_ ho ⟨hon, hS2⟩
     replace F : Fr ac 68 [(0, Vp bq), (1, .agg #[Vi t, Vi x]), (3, Vp w.heap.size), (4, Vp w5.heap.size), (5, Vp bk20), (6, .bool false), (7, Vp w21.heap.size), (8, Vp w28.heap.size), (9, Vp bk50), (10, Vp w82.heap.size), (11, Vp w94.heap.size), (12, .bool true), (13, Vp bk126), (20, .bool false), (31, .bool false), (51, .bool true), (59, .bool false)] := X.fr hs hd hl_ _ (by kernel_rfl)
     clear hs hd hl_ ho
     replace G := Gr.refl w129
     replace hq := hq.only hon (by show ¬ bq = bm; omega)
     replace hM := hS2
     replace hV6 := hV6.only hon (by show ¬ w5.heap.size = bm; omega)
     replace hV20 := hV20.only hon (by show ¬ bk20 = bm; omega)
     replace hV22 := hV22.only hon (by show ¬ w21.heap.size = bm; omega)
     replace hV29 := hV29.only hon (by show ¬ w28.heap.size = bm; omega)
     replace hV50 := hV50.only hon (by show ¬ bk50 = bm; omega)
     replace hV83 := hV83.only hon (by show ¬ w82.heap.size = bm; omega)
     replace hV95 := hV95.only hon (by show ¬ w94.heap.size = bm; omega)
     replace hV126 := hV126.only hon (by show ¬ bk126 = bm; omega)
     replace hC := (hC.kc hon 0 rfl (hC.kc hon 1 rfl (hC.kc hon 2 rfl (hC.kc hon 3 rfl (hC.kc hon 4 rfl (hC.kc hon 5 rfl (hC.kc hon 6 rfl (hC.kc hon 7 rfl (hC.kc hon 8 rfl (hC.kc hon 9 rfl (hC.kc hon 10 rfl (hC.kc hon 11 rfl (hC.kc hon 12 rfl (hC.kc hon 13 rfl (hC.kc hon 14 rfl (hC.kc hon 15 rfl (hC.kc hon 16 rfl (hC.kc hon 17 rfl (hC.kc hon 18 rfl (hC.kc hon 19 rfl (hC.kc hon 20 rfl (hC.kc hon 21 rfl (RCells.nil _)))))))))))))))))))))))
     replace hE := hE.step hon (.inl rfl)
     clear hon hS2
     refine X.thenN ?_
     refine Y.seq ?_
     refine Y.lit (by kernel_rfl) ?_
     refine Y.pv F (X.load rfl (F.e 9 rfl) (X.ldN (Try.agg69 _) (Try.siz69 _) (Y.atz (⟨bk50, 0, none⟩) (Y.AtFrom.cons (hC.at 20 rfl) (Y.AtFrom.cons (hC.at 21 rfl) (Y.AtFrom.nil _ _ _)))))) ?_;clear F ac;intro ac F
     obtain ⟨w130, hrun, hS2, hon⟩ := hV6.st2 (P := Try.prog) (t := 69) (x := Vi (((bestV p ((t : Int) + 1) (refV p t x)).1 : Int) + p.za)) (y := Vi (((bestV p ((t : Int) + 1) (refV p t x)).2 : Int) + 0)) (fun W => Try.siz69 W) rfl rfl
     refine Y.punit F (X.w0 rfl) rfl (X.store rfl (F.e 4 rfl) (F.e 67 rfl) hrun) ?_
     clear F ac hrun
     intro ac F
     replace G := Gr.refl w130
     replace hq := hq.only hon (by show ¬ _ = _; omega)
     replace hM := hM.only hon (by show ¬ _ = _; omega)
     replace hV20 := hV20.only hon (by show ¬ _ = _; omega)
     replace hV22 := hV22.only hon (by show ¬ _ = _; omega)
     replace hV29 := hV29.only hon (by show ¬ _ = _; omega)
     replace hV50 := hV50.only hon (by show ¬ _ = _; omega)
     replace hV83 := hV83.only hon (by show ¬ _ = _; omega)
     replace hV95 := hV95.only hon (by show ¬ _ = _; omega)
     replace hV126 := hV126.only hon (by show ¬ _ = _; omega)
     replace hC := (hC.kc hon 0 rfl (hC.kc hon 1 rfl (hC.kc hon 2 rfl (hC.kc hon 3 rfl (hC.kc hon 4 rfl (hC.kc hon 5 rfl (hC.kc hon 6 rfl (hC.kc hon 7 rfl (hC.kc hon 8 rfl (hC.kc hon 9 rfl (hC.kc hon 10 rfl (hC.kc hon 11 rfl (hC.kc hon 12 rfl (hC.kc hon 13 rfl (hC.kc hon 14 rfl (hC.kc hon 15 rfl (hC.kc hon 16 rfl (hC.kc hon 17 rfl (hC.kc hon 18 rfl (hC.kc hon 19 rfl (hC.kc hon 20 rfl (hC.kc hon 21 rfl (RCells.nil _)))))))))))))))))))))))
     replace hE := hE.step hon (.inr (by omega))
     replace hV6 := hS2
     clear hS2 hon
     refine Y.nil ?_
     replace F : Fr ac 68 [(0, Vp bq), (1, .agg #[Vi t, Vi x]), (3, Vp w.heap.size), (4, Vp w5.heap.size), (5, Vp bk20), (6, .bool false), (7, Vp w21.heap.size), (8, Vp w28.heap.size), (9, Vp bk50), (10, Vp w82.heap.size), (11, Vp w94.heap.size), (12, .bool true), (13, Vp bk126), (20, .bool false), (31, .bool false), (51, .bool true), (59, .bool false)] := F.sub _
     refine X.thenN ?_
     refine Y.ret ?_
     exact Y.ret0 (v := .agg #[Vi (((bestV p ((t : Int) + 1) (refV p t x)).1 : Int) + p.za), Vi (((bestV p ((t : Int) + 1) (refV p t x)).2 : Int) + 0)]) F (Y.rc1 F rfl (Try.agg69 _) (Try.siz69 _) (by kernel_rfl) hV6) ⟨by rw [show bestV p t x = (((bestV p ((t : Int) + 1) (refV p t x)).1 : Int) + p.za, ((bestV p ((t : Int) + 1) (refV p t x)).2 : Int) + 0) from by rw [bestV_wake htT hwk]; unfold pick2; exact if_neg (fun e => by have e2 := (h128).symm.trans e; cases e2)], hE, hM⟩
    | true =>
     try rw [h128] at F
     refine Y.condT (F.e 59 rfl) ?_
     refine Y.lit (by kernel_rfl) ?_
     refine Y.pv F (X.load rfl (F.e 13 rfl) (X.ldN (Try.agg69 _) (Try.siz69 _) (Y.atz (⟨bk126, 0, none⟩) (Y.AtFrom.cons (hC.at 18 rfl) (Y.AtFrom.cons (hC.at 19 rfl) (Y.AtFrom.nil _ _ _)))))) ?_;clear F ac;intro ac F
     obtain ⟨w131, hrun, hS2, hon⟩ := hV50.st2 (P := Try.prog) (t := 69) (x := Vi (((bestV p ((t : Int) + 1 + ((wkN p t : Nat) : Int)) ((wkV p t (refV p t x) (wkN p t)).1)).1 : Int) + ((wkV p t (refV p t x) (wkN p t)).2))) (y := Vi (((bestV p ((t : Int) + 1 + ((wkN p t : Nat) : Int)) ((wkV p t (refV p t x) (wkN p t)).1)).2 : Int) + 1)) (fun W => Try.siz69 W) rfl rfl
     refine Y.punit F (X.w0 rfl) rfl (X.store rfl (F.e 9 rfl) (F.e 60 rfl) hrun) ?_
     clear F ac hrun
     intro ac F
     replace G := Gr.refl w131
     replace hq := hq.only hon (by show ¬ _ = _; omega)
     replace hM := hM.only hon (by show ¬ _ = _; omega)
     replace hV6 := hV6.only hon (by show ¬ _ = _; omega)
     replace hV20 := hV20.only hon (by show ¬ _ = _; omega)
     replace hV22 := hV22.only hon (by show ¬ _ = _; omega)
     replace hV29 := hV29.only hon (by show ¬ _ = _; omega)
     replace hV83 := hV83.only hon (by show ¬ _ = _; omega)
     replace hV95 := hV95.only hon (by show ¬ _ = _; omega)
     replace hV126 := hV126.only hon (by show ¬ _ = _; omega)
     replace hC := (hC.kc hon 0 rfl (hC.kc hon 1 rfl (hC.kc hon 2 rfl (hC.kc hon 3 rfl (hC.kc hon 4 rfl (hC.kc hon 5 rfl (hC.kc hon 6 rfl (hC.kc hon 7 rfl (hC.kc hon 8 rfl (hC.kc hon 9 rfl (hC.kc hon 10 rfl (hC.kc hon 11 rfl (hC.kc hon 12 rfl (hC.kc hon 13 rfl (hC.kc hon 14 rfl (hC.kc hon 15 rfl (hC.kc hon 16 rfl (hC.kc hon 17 rfl (hC.kc hon 18 rfl (hC.kc hon 19 rfl (RCells.nil _)))))))))))))))))))))
     replace hE := hE.step hon (.inr (by omega))
     replace hV50 := hS2
     clear hS2 hon
     refine Y.nil ?_
     replace F : Fr ac 68 [(0, Vp bq), (1, .agg #[Vi t, Vi x]), (3, Vp w.heap.size), (4, Vp w5.heap.size), (5, Vp bk20), (6, .bool false), (7, Vp w21.heap.size), (8, Vp w28.heap.size), (9, Vp bk50), (10, Vp w82.heap.size), (11, Vp w94.heap.size), (12, .bool true), (13, Vp bk126), (20, .bool false), (31, .bool false), (51, .bool true), (59, .bool true)] := F.sub _
     refine X.thenN ?_
     refine Y.seq ?_
     replace hC : RCells w131 [(Ad bq 0, Vi gq), (Ad bq 1, Vi p.aw), (Ad bq 2, Vi p.za), (Ad bq 3, Vi p.bu), (Ad bq 4, Vi p.re), (Ad bq 5, Vi p.hold), (Ad bq 6, Vi p.T), (Ad bq 7, .map (some bm)), (Ad w.heap.size 0, Vi t), (Ad w.heap.size 1, Vi x), (Ad w21.heap.size 0, Vi ((t : Int) + 1)), (Ad w21.heap.size 1, Vi (refV p t x)), (Ad w28.heap.size 0, Vi p.za), (Ad w28.heap.size 1, Vi 0), (Ad w82.heap.size 0, Vi ((t : Int) + 1 + ((wkN p t : Nat) : Int))), (Ad w82.heap.size 1, Vi ((wkV p t (refV p t x) (wkN p t)).1)), (Ad w94.heap.size 0, Vi ((wkV p t (refV p t x) (wkN p t)).2)), (Ad w94.heap.size 1, Vi 1), (Ad bk126 0, Vi (((bestV p ((t : Int) + 1 + ((wkN p t : Nat) : Int)) ((wkV p t (refV p t x) (wkN p t)).1)).1 : Int) + ((wkV p t (refV p t x) (wkN p t)).2))), (Ad bk126 1, Vi (((bestV p ((t : Int) + 1 + ((wkN p t : Nat) : Int)) ((wkV p t (refV p t x) (wkN p t)).1)).2 : Int) + 1)), (Ad bk50 0, Vi (((bestV p ((t : Int) + 1 + ((wkN p t : Nat) : Int)) ((wkV p t (refV p t x) (wkN p t)).1)).1 : Int) + ((wkV p t (refV p t x) (wkN p t)).2)))] := hC.append ((RCells.cons (hV50.cell (k := 0) (by decide)) (RCells.nil _)))
     replace hC : RCells w131 [(Ad bq 0, Vi gq), (Ad bq 1, Vi p.aw), (Ad bq 2, Vi p.za), (Ad bq 3, Vi p.bu), (Ad bq 4, Vi p.re), (Ad bq 5, Vi p.hold), (Ad bq 6, Vi p.T), (Ad bq 7, .map (some bm)), (Ad w.heap.size 0, Vi t), (Ad w.heap.size 1, Vi x), (Ad w21.heap.size 0, Vi ((t : Int) + 1)), (Ad w21.heap.size 1, Vi (refV p t x)), (Ad w28.heap.size 0, Vi p.za), (Ad w28.heap.size 1, Vi 0), (Ad w82.heap.size 0, Vi ((t : Int) + 1 + ((wkN p t : Nat) : Int))), (Ad w82.heap.size 1, Vi ((wkV p t (refV p t x) (wkN p t)).1)), (Ad w94.heap.size 0, Vi ((wkV p t (refV p t x) (wkN p t)).2)), (Ad w94.heap.size 1, Vi 1), (Ad bk126 0, Vi (((bestV p ((t : Int) + 1 + ((wkN p t : Nat) : Int)) ((wkV p t (refV p t x) (wkN p t)).1)).1 : Int) + ((wkV p t (refV p t x) (wkN p t)).2))), (Ad bk126 1, Vi (((bestV p ((t : Int) + 1 + ((wkN p t : Nat) : Int)) ((wkV p t (refV p t x) (wkN p t)).1)).2 : Int) + 1)), (Ad bk50 0, Vi (((bestV p ((t : Int) + 1 + ((wkN p t : Nat) : Int)) ((wkV p t (refV p t x) (wkN p t)).1)).1 : Int) + ((wkV p t (refV p t x) (wkN p t)).2))), (Ad bk50 1, Vi (((bestV p ((t : Int) + 1 + ((wkN p t : Nat) : Int)) ((wkV p t (refV p t x) (wkN p t)).1)).2 : Int) + 1))] := hC.append ((RCells.cons (hV50.cell (k := 1) (by decide)) (RCells.nil _)))
     refine Y.regionS F [some (Vp bq), some (Vp bq), some (.pointer (some ⟨bq, 7, none⟩)), some (.map (some bm)), some (.agg #[Vi t, Vi x]), some (.agg #[Vi (((bestV p ((t : Int) + 1 + ((wkN p t : Nat) : Int)) ((wkV p t (refV p t x) (wkN p t)).1)).1 : Int) + ((wkV p t (refV p t x) (wkN p t)).2)), Vi (((bestV p ((t : Int) + 1 + ((wkN p t : Nat) : Int)) ((wkV p t (refV p t x) (wkN p t)).1)).2 : Int) + 1)]), none] [] 6 (fun _ W => Only (fun x => x = bm) w131 W ∧ Memo W bm (gdV p)) rfl ⟨by kernel_rfl, of_decide_eq_true (by kernel_rfl), by kernel_rfl, by kernel_rfl, by kernel_rfl⟩ (of_decide_eq_true (by kernel_rfl)) ⟨?_, ?_, ?_, ?_, ?_, ?_, ?_, trivial⟩ ?_
     ·intro ac done u W Sx hT
      have hs := Sx.no 6 (by kernel_rfl)
      have hR := hT.1 hs
      exact X.vl (X.move rfl (Sx.ev 0 (Vp bq))) (Y.RT.of hs rfl hR.st0)
     ·intro ac done u W Sx hT
      have hs := Sx.no 6 (by kernel_rfl)
      have hR := hT.1 hs
      exact X.vl (Y.nilC rfl (Sx.ev 61 (Vp bq))) (Y.RT.of hs rfl hR.st0)
     ·intro ac done u W Sx hT
      have hs := Sx.no 6 (by kernel_rfl)
      have hR := hT.1 hs
      exact X.vl (X.field rfl (Sx.ev 62 (Vp bq)) (X.fld Try.underlying110 rfl (Try.siz108 _) rfl rfl)) (Y.RT.of hs rfl hR.st0)
     ·intro ac done u W Sx hT
      have hs := Sx.no 6 (by kernel_rfl)
      have hR := hT.1 hs
      have g : Gr w131 W := hR.1
      exact X.vl (X.load rfl (Sx.ev 63 (.pointer (some ⟨bq, 7, none⟩))) (X.ld1 (Try.agg108 _) ((hC.gr g).at 7 rfl))) (Y.RT.of hs rfl hR.st0)
     ·intro ac done u W Sx hT
      have hs := Sx.no 6 (by kernel_rfl)
      have hR := hT.1 hs
      have g : Gr w131 W := hR.1
      exact X.vl (X.load rfl (Sx.ev 3 (Vp w.heap.size)) (X.ldN (Try.agg72 _) (Try.siz72 _) (Y.atz (⟨w.heap.size, 0, none⟩) (Y.AtFrom.cons ((hC.gr g).at 8 rfl) (Y.AtFrom.cons ((hC.gr g).at 9 rfl) (Y.AtFrom.nil _ _ _)))))) (Y.RT.of hs rfl hR.st0)
     ·intro ac done u W Sx hT
      have hs := Sx.no 6 (by kernel_rfl)
      have hR := hT.1 hs
      have g : Gr w131 W := hR.1
      exact X.vl (X.load rfl (Sx.ev 9 (Vp bk50)) (X.ldN (Try.agg69 _) (Try.siz69 _) (Y.atz (⟨bk50, 0, none⟩) (Y.AtFrom.cons ((hC.gr g).at 20 rfl) (Y.AtFrom.cons ((hC.gr g).at 21 rfl) (Y.AtFrom.nil _ _ _)))))) (Y.RT.of hs rfl hR.st0)
     ·intro ac done u W Sx hT
      have hR := hT.1 Sx.nd
      have g : Gr w131 W := hR.1
      obtain ⟨W2, hrun, hM2, hon⟩ := memo_store (t := 108) (e := 69) (v := .agg #[Vi (((bestV p ((t : Int) + 1 + ((wkN p t : Nat) : Int)) ((wkV p t (refV p t x) (wkN p t)).1)).1 : Int) + ((wkV p t (refV p t x) (wkN p t)).2)), Vi (((bestV p ((t : Int) + 1 + ((wkN p t : Nat) : Int)) ((wkV p t (refV p t x) (wkN p t)).1)).2 : Int) + 1)]) Try.underlying108 (hM.gr g) hsm (by show (.agg #[Vi (((bestV p ((t : Int) + 1 + ((wkN p t : Nat) : Int)) ((wkV p t (refV p t x) (wkN p t)).1)).1 : Int) + ((wkV p t (refV p t x) (wkN p t)).2)), Vi (((bestV p ((t : Int) + 1 + ((wkN p t : Nat) : Int)) ((wkV p t (refV p t x) (wkN p t)).1)).2 : Int) + 1)] : Value) = gfV p t x; unfold gfV; rw [show bestV p t x = (((bestV p ((t : Int) + 1 + ((wkN p t : Nat) : Int)) ((wkV p t (refV p t x) (wkN p t)).1)).1 : Int) + ((wkV p t (refV p t x) (wkN p t)).2), ((bestV p ((t : Int) + 1 + ((wkN p t : Nat) : Int)) ((wkV p t (refV p t x) (wkN p t)).1)).2 : Int) + 1) from by rw [bestV_wake htT hwk]; unfold pick2; exact if_pos (h128)])
      exact X.unit (X.w0 rfl) rfl (X.mu rfl (Sx.ev 64 (.map (some bm))) (Sx.ev 65 (.agg #[Vi t, Vi x])) (Sx.ev 66 (.agg #[Vi (((bestV p ((t : Int) + 1 + ((wkN p t : Nat) : Int)) ((wkV p t (refV p t x) (wkN p t)).1)).1 : Int) + ((wkV p t (refV p t x) (wkN p t)).2)), Vi (((bestV p ((t : Int) + 1 + ((wkN p t : Nat) : Int)) ((wkV p t (refV p t x) (wkN p t)).1)).2 : Int) + 1)])) hrun) (Y.RT.fin ⟨(g.only _).trans hon, hM2⟩)
     rintro ac u w132 hs hd hl_ ho ⟨hon, hS2⟩
     replace F : Fr ac 68 [(0, Vp bq), (1, .agg #[Vi t, Vi x]), (3, Vp w.heap.size), (4, Vp w5.heap.size), (5, Vp bk20), (6, .bool false), (7, Vp w21.heap.size), (8, Vp w28.heap.size), (9, Vp bk50), (10, Vp w82.heap.size), (11, Vp w94.heap.size), (12, .bool true), (13, Vp bk126), (20, .bool false), (31, .bool false), (51, .bool true), (59, .bool true)] := X.fr hs hd hl_ _ (by kernel_rfl)
     clear hs hd hl_ ho
     replace G := Gr.refl w132
     replace hq := hq.only hon (by show ¬ bq = bm; omega)
     replace hM := hS2
     replace hV6 := hV6.only hon (by show ¬ w5.heap.size = bm; omega)
     replace hV20 := hV20.only hon (by show ¬ bk20 = bm; omega)
     replace hV22 := hV22.only hon (by show ¬ w21.heap.size = bm; omega)
     replace hV29 := hV29.only hon (by show ¬ w28.heap.size = bm; omega)
     replace hV50 := hV50.only hon (by show ¬ bk50 = bm; omega)
     replace hV83 := hV83.only hon (by show ¬ w82.heap.size = bm; omega)
     replace hV95 := hV95.only hon (by show ¬ w94.heap.size = bm; omega)
     replace hV126 := hV126.only hon (by show ¬ bk126 = bm; omega)
     replace hC := (hC.kc hon 0 rfl (hC.kc hon 1 rfl (hC.kc hon 2 rfl (hC.kc hon 3 rfl (hC.kc hon 4 rfl (hC.kc hon 5 rfl (hC.kc hon 6 rfl (hC.kc hon 7 rfl (hC.kc hon 8 rfl (hC.kc hon 9 rfl (hC.kc hon 10 rfl (hC.kc hon 11 rfl (hC.kc hon 12 rfl (hC.kc hon 13 rfl (hC.kc hon 14 rfl (hC.kc hon 15 rfl (hC.kc hon 16 rfl (hC.kc hon 17 rfl (hC.kc hon 18 rfl (hC.kc hon 19 rfl (hC.kc hon 20 rfl (hC.kc hon 21 rfl (RCells.nil _)))))))))))))))))))))))
     replace hE := hE.step hon (.inl rfl)
     clear hon hS2
     refine X.thenN ?_
     refine Y.seq ?_
     refine Y.lit (by kernel_rfl) ?_
     refine Y.pv F (X.load rfl (F.e 9 rfl) (X.ldN (Try.agg69 _) (Try.siz69 _) (Y.atz (⟨bk50, 0, none⟩) (Y.AtFrom.cons (hC.at 20 rfl) (Y.AtFrom.cons (hC.at 21 rfl) (Y.AtFrom.nil _ _ _)))))) ?_;clear F ac;intro ac F
     obtain ⟨w133, hrun, hS2, hon⟩ := hV6.st2 (P := Try.prog) (t := 69) (x := Vi (((bestV p ((t : Int) + 1 + ((wkN p t : Nat) : Int)) ((wkV p t (refV p t x) (wkN p t)).1)).1 : Int) + ((wkV p t (refV p t x) (wkN p t)).2))) (y := Vi (((bestV p ((t : Int) + 1 + ((wkN p t : Nat) : Int)) ((wkV p t (refV p t x) (wkN p t)).1)).2 : Int) + 1)) (fun W => Try.siz69 W) rfl rfl
     refine Y.punit F (X.w0 rfl) rfl (X.store rfl (F.e 4 rfl) (F.e 67 rfl) hrun) ?_
     clear F ac hrun
     intro ac F
     replace G := Gr.refl w133
     replace hq := hq.only hon (by show ¬ _ = _; omega)
     replace hM := hM.only hon (by show ¬ _ = _; omega)
     replace hV20 := hV20.only hon (by show ¬ _ = _; omega)
     replace hV22 := hV22.only hon (by show ¬ _ = _; omega)
     replace hV29 := hV29.only hon (by show ¬ _ = _; omega)
     replace hV50 := hV50.only hon (by show ¬ _ = _; omega)
     replace hV83 := hV83.only hon (by show ¬ _ = _; omega)
     replace hV95 := hV95.only hon (by show ¬ _ = _; omega)
     replace hV126 := hV126.only hon (by show ¬ _ = _; omega)
     replace hC := (hC.kc hon 0 rfl (hC.kc hon 1 rfl (hC.kc hon 2 rfl (hC.kc hon 3 rfl (hC.kc hon 4 rfl (hC.kc hon 5 rfl (hC.kc hon 6 rfl (hC.kc hon 7 rfl (hC.kc hon 8 rfl (hC.kc hon 9 rfl (hC.kc hon 10 rfl (hC.kc hon 11 rfl (hC.kc hon 12 rfl (hC.kc hon 13 rfl (hC.kc hon 14 rfl (hC.kc hon 15 rfl (hC.kc hon 16 rfl (hC.kc hon 17 rfl (hC.kc hon 18 rfl (hC.kc hon 19 rfl (hC.kc hon 20 rfl (hC.kc hon 21 rfl (RCells.nil _)))))))))))))))))))))))
     replace hE := hE.step hon (.inr (by omega))
     replace hV6 := hS2
     clear hS2 hon
     refine Y.nil ?_
     replace F : Fr ac 68 [(0, Vp bq), (1, .agg #[Vi t, Vi x]), (3, Vp w.heap.size), (4, Vp w5.heap.size), (5, Vp bk20), (6, .bool false), (7, Vp w21.heap.size), (8, Vp w28.heap.size), (9, Vp bk50), (10, Vp w82.heap.size), (11, Vp w94.heap.size), (12, .bool true), (13, Vp bk126), (20, .bool false), (31, .bool false), (51, .bool true), (59, .bool true)] := F.sub _
     refine X.thenN ?_
     refine Y.ret ?_
     exact Y.ret0 (v := .agg #[Vi (((bestV p ((t : Int) + 1 + ((wkN p t : Nat) : Int)) ((wkV p t (refV p t x) (wkN p t)).1)).1 : Int) + ((wkV p t (refV p t x) (wkN p t)).2)), Vi (((bestV p ((t : Int) + 1 + ((wkN p t : Nat) : Int)) ((wkV p t (refV p t x) (wkN p t)).1)).2 : Int) + 1)]) F (Y.rc1 F rfl (Try.agg69 _) (Try.siz69 _) (by kernel_rfl) hV6) ⟨by rw [show bestV p t x = (((bestV p ((t : Int) + 1 + ((wkN p t : Nat) : Int)) ((wkV p t (refV p t x) (wkN p t)).1)).1 : Int) + ((wkV p t (refV p t x) (wkN p t)).2), ((bestV p ((t : Int) + 1 + ((wkN p t : Nat) : Int)) ((wkV p t (refV p t x) (wkN p t)).1)).2 : Int) + 1) from by rw [bestV_wake htT hwk]; unfold pick2; exact if_pos (h128)], hE, hM⟩
  | true =>
   simp only [if_true] at hlk
   have hq134 : w5.heap.size < w11.heap.size := hV6.lt
   have hq135 : bq < w11.heap.size := lt_cell (hC.at 0 rfl)
   have hq136 : w.heap.size < w11.heap.size := lt_cell (hC.at 8 rfl)
   have hq137 : bm < w11.heap.size := hM.lt
   have hmlt := hM.lt
   have hmlt138 := hmlt
   refine region_xi F [some (Vp bq), some (Vp bq), some (.pointer (some ⟨bq, 7, none⟩)), some (.map (some bm)), some (.agg #[Vi t, Vi x]), some (.tuple #[.agg #[Vi ((bestV p t x).1), Vi ((bestV p t x).2)], .bool true]), some (.tuple #[.agg #[Vi ((bestV p t x).1), Vi ((bestV p t x).2)], .bool true]), some (.agg #[Vi ((bestV p t x).1), Vi ((bestV p t x).2)]), some (.bool true), none, none, some (.bool true)] (RTk w11 (fun _ => False) (fun _ => True) 9 10 (VL [Vi 0, Vi 0]) (VL [Vi ((bestV p t x).1), Vi ((bestV p t x).2)])) rfl ⟨by kernel_rfl, of_decide_eq_true (by kernel_rfl), by kernel_rfl, by kernel_rfl, by kernel_rfl⟩ (fun _ => ⟨RTk.start (Gr.refl _) trivial, RTk.start (Gr.drew _) trivial⟩) ⟨?_, ?_, ?_, ?_, ?_, ?_, ?_, ?_, ?_, ?_, ?_, ?_, trivial⟩ ?_
   ·intro ac done u W Sx hR
    exact X.vl (X.move rfl (Sx.ev 0 (Vp bq))) (hR.quiet (by decide))
   ·intro ac done u W Sx hR
    exact X.vl (Y.nilC rfl (Sx.ev 23 (Vp bq))) (hR.quiet (by decide))
   ·intro ac done u W Sx hR
    exact X.vl (X.field rfl (Sx.ev 24 (Vp bq)) (X.fld Try.underlying110 rfl (Try.siz108 _) rfl rfl)) (hR.quiet (by decide))
   ·intro ac done u W Sx hR
    exact X.vl (X.load rfl (Sx.ev 25 (.pointer (some ⟨bq, 7, none⟩))) (X.ld1 (Try.agg108 _) (hR.o.cell (hC.at 7 rfl) (fun h => h)))) (hR.quiet (by decide))
   ·intro ac done u W Sx hR
    exact X.vl (X.load rfl (Sx.ev 3 (Vp w.heap.size)) (X.ldN (Try.agg72 _) (Try.siz72 _) (Y.atz (⟨w.heap.size, 0, none⟩) (Y.AtFrom.cons (hR.o.cell (hC.at 8 rfl) (fun h => h)) (Y.AtFrom.cons (hR.o.cell (hC.at 9 rfl) (fun h => h)) (Y.AtFrom.nil _ _ _)))))) (hR.quiet (by decide))
   ·intro ac done u W Sx hR
    exact X.vl (X.lk rfl (Sx.ev 26 (.map (some bm))) (Sx.ev 27 (.agg #[Vi t, Vi x])) (hlk W (hR.o.block _ hmlt (fun h => h)))) (hR.quiet (by decide))
   ·intro ac done u W Sx hR
    exact X.vl (X.move rfl (Sx.ev 28 (.tuple #[.agg #[Vi ((bestV p t x).1), Vi ((bestV p t x).2)], .bool true]))) (hR.quiet (by decide))
   ·intro ac done u W Sx hR
    exact X.vl (X.extract rfl (Sx.ev 22 (.tuple #[.agg #[Vi ((bestV p t x).1), Vi ((bestV p t x).2)], .bool true])) rfl) (hR.quiet (by decide))
   ·intro ac done u W Sx hR
    exact X.vl (X.extract rfl (Sx.ev 22 (.tuple #[.agg #[Vi ((bestV p t x).1), Vi ((bestV p t x).2)], .bool true])) rfl) (hR.quiet (by decide))
   ·intro ac done u W Sx hR
    exact X.valN (X.w0 rfl) rfl (Y.al rfl (Try.new69 _)) (hR.alloc (by decide) (Sx.no 10 (by kernel_rfl)) hR.o.size (Gr.alloc _ _) (trivial) (ownP_2 (World.alloc_heap_new _ _)))
   ·intro ac done u W Sx hR
    obtain ⟨b_, eb, hge, hz, -⟩ := hR.q (Sx.an 9 (by kernel_rfl))
    obtain ⟨W2, hrun, hS2, hon⟩ := (hz Sx.nd).st2 (P := Try.prog) (t := 69) (x := Vi ((bestV p t x).1)) (y := Vi ((bestV p t x).2)) (fun W => Try.siz69 W) rfl rfl
    exact X.unit (X.w0 rfl) rfl (X.store rfl ((Sx.own 9 5 rfl).trans eb) (Sx.ev 29 (.agg #[Vi ((bestV p t x).1), Vi ((bestV p t x).2)])) hrun) (hR.st (by decide) eb hge (trivial) hon hS2)
   ·intro ac done u W Sx hR
    exact X.vl (X.assign rfl (Sx.ev 30 (.bool true))) (hR.quiet (by decide))
   rintro ac u w139 hs hd hl_ ho hR
   replace F : Fr ac 68 [(0, Vp bq), (1, .agg #[Vi t, Vi x]), (3, Vp w.heap.size), (4, Vp w5.heap.size), (6, .bool true), (20, .bool false)] := X.fr hs hd hl_ _ (by kernel_rfl)
   obtain ⟨bk140, eb, hge140, -, hn⟩ := hR.q rfl
   have hV140 := hn rfl
   replace F := F.add (ho 9 5 rfl) eb
   replace F : Fr ac 68 [(0, Vp bq), (1, .agg #[Vi t, Vi x]), (3, Vp w.heap.size), (4, Vp w5.heap.size), (5, Vp bk140), (6, .bool true), (20, .bool false)] := F.sub _
   clear eb hn
   have hon := hR.o
   replace G := Gr.refl w139
   replace hE := hE.step2 hon (fun r e => e.elim)
   replace hq := hq.only hon (fun h => h)
   replace hM := hM.only hon (fun h => h)
   replace hV6 := hV6.only hon (fun h => h)
   replace hC := (RCells.cons (hon.cell (hC.at 0 rfl) (fun h => h)) (RCells.cons (hon.cell (hC.at 1 rfl) (fun h => h)) (RCells.cons (hon.cell (hC.at 2 rfl) (fun h => h)) (RCells.cons (hon.cell (hC.at 3 rfl) (fun h => h)) (RCells.cons (hon.cell (hC.at 4 rfl) (fun h => h)) (RCells.cons (hon.cell (hC.at 5 rfl) (fun h => h)) (RCells.cons (hon.cell (hC.at 6 rfl) (fun h => h)) (RCells.cons (hon.cell (hC.at 7 rfl) (fun h => h)) (RCells.cons (hon.cell (hC.at 8 rfl) (fun h => h)) (RCells.cons (hon.cell (hC.at 9 rfl) (fun h => h)) (RCells.nil _)))))))))))
   have hbk140 : bk140 < w139.heap.size := hV140.lt
   clear hs hd hl_ ho hR hon
   refine X.thenN ?_
   refine Y.seq ?_
   refine Y.lit (by kernel_rfl) ?_
   refine Y.pv F (X.move rfl (F.e 6 rfl)) ?_;clear F ac;intro ac F
   refine Y.nil ?_
   replace F : Fr ac 68 [(0, Vp bq), (1, .agg #[Vi t, Vi x]), (3, Vp w.heap.size), (4, Vp w5.heap.size), (5, Vp bk140), (6, .bool true), (20, .bool false), (31, .bool true)] := F.sub _
   refine X.thenN ?_
   refine Y.condT (F.e 31 rfl) ?_
   refine Y.seq ?_
   refine Y.lit (by kernel_rfl) ?_
   replace hC : RCells w139 [(Ad bq 0, Vi gq), (Ad bq 1, Vi p.aw), (Ad bq 2, Vi p.za), (Ad bq 3, Vi p.bu), (Ad bq 4, Vi p.re), (Ad bq 5, Vi p.hold), (Ad bq 6, Vi p.T), (Ad bq 7, .map (some bm)), (Ad w.heap.size 0, Vi t), (Ad w.heap.size 1, Vi x), (Ad bk140 0, Vi ((bestV p t x).1))] := hC.append ((RCells.cons (hV140.cell (k := 0) (by decide)) (RCells.nil _)))
   replace hC : RCells w139 [(Ad bq 0, Vi gq), (Ad bq 1, Vi p.aw), (Ad bq 2, Vi p.za), (Ad bq 3, Vi p.bu), (Ad bq 4, Vi p.re), (Ad bq 5, Vi p.hold), (Ad bq 6, Vi p.T), (Ad bq 7, .map (some bm)), (Ad w.heap.size 0, Vi t), (Ad w.heap.size 1, Vi x), (Ad bk140 0, Vi ((bestV p t x).1)), (Ad bk140 1, Vi ((bestV p t x).2))] := hC.append ((RCells.cons (hV140.cell (k := 1) (by decide)) (RCells.nil _)))
   refine Y.pv F (X.load rfl (F.e 5 rfl) (X.ldN (Try.agg69 _) (Try.siz69 _) (Y.atz (⟨bk140, 0, none⟩) (Y.AtFrom.cons (hC.at 10 rfl) (Y.AtFrom.cons (hC.at 11 rfl) (Y.AtFrom.nil _ _ _)))))) ?_;clear F ac;intro ac F
   obtain ⟨w141, hrun, hS2, hon⟩ := hV6.st2 (P := Try.prog) (t := 69) (x := Vi ((bestV p t x).1)) (y := Vi ((bestV p t x).2)) (fun W => Try.siz69 W) rfl rfl
   refine Y.punit F (X.w0 rfl) rfl (X.store rfl (F.e 4 rfl) (F.e 32 rfl) hrun) ?_
   clear F ac hrun
   intro ac F
   replace G := Gr.refl w141
   replace hq := hq.only hon (by show ¬ _ = _; omega)
   replace hM := hM.only hon (by show ¬ _ = _; omega)
   replace hV140 := hV140.only hon (by show ¬ _ = _; omega)
   replace hC := (hC.kc hon 0 rfl (hC.kc hon 1 rfl (hC.kc hon 2 rfl (hC.kc hon 3 rfl (hC.kc hon 4 rfl (hC.kc hon 5 rfl (hC.kc hon 6 rfl (hC.kc hon 7 rfl (hC.kc hon 8 rfl (hC.kc hon 9 rfl (hC.kc hon 10 rfl (hC.kc hon 11 rfl (RCells.nil _)))))))))))))
   replace hE := hE.step hon (.inr (by omega))
   replace hV6 := hS2
   clear hS2 hon
   refine Y.nil ?_
   replace F : Fr ac 68 [(0, Vp bq), (1, .agg #[Vi t, Vi x]), (3, Vp w.heap.size), (4, Vp w5.heap.size), (5, Vp bk140), (6, .bool true), (20, .bool false), (31, .bool true)] := F.sub _
   refine X.thenN ?_
   refine Y.ret ?_
   refine X.thenR ?_
   exact Y.ret0 (v := .agg #[Vi ((bestV p t x).1), Vi ((bestV p t x).2)]) F (Y.rc1 F rfl (Try.agg69 _) (Try.siz69 _) (by kernel_rfl) hV6) ⟨rfl, hE, hM⟩
 | true =>
  try rw [h12] at F
  have h12p : ((p.T : Int) ≤ t) := of_decide_eq_true h12
  refine Y.condT (F.e 20 rfl) ?_
  refine Y.seq ?_
  refine Y.lit (by kernel_rfl) ?_
  refine Y.pv F (Y.bd rfl Y.bd0 (Try.bd69b _)) ?_;clear F ac;intro ac F
  obtain ⟨w142, hrun, hS2, hon⟩ := hV6.st2 (P := Try.prog) (t := 69) (x := Vi 0) (y := Vi 0) (fun W => Try.siz69 W) rfl rfl
  refine Y.punit F (X.w0 rfl) rfl (X.store rfl (F.e 4 rfl) (F.e 21 rfl) hrun) ?_
  clear F ac hrun
  intro ac F
  replace G := Gr.refl w142
  replace hq := hq.only hon (by show ¬ _ = _; omega)
  replace hM := hM.only hon (by show ¬ _ = _; omega)
  replace hC := (hC.kc hon 0 rfl (hC.kc hon 1 rfl (hC.kc hon 2 rfl (hC.kc hon 3 rfl (hC.kc hon 4 rfl (hC.kc hon 5 rfl (hC.kc hon 6 rfl (hC.kc hon 7 rfl (hC.kc hon 8 rfl (hC.kc hon 9 rfl (RCells.nil _)))))))))))
  replace hE := hE.step hon (.inr (by omega))
  replace hV6 := hS2
  clear hS2 hon
  refine Y.nil ?_
  replace F : Fr ac 68 [(0, Vp bq), (1, .agg #[Vi t, Vi x]), (3, Vp w.heap.size), (4, Vp w5.heap.size), (20, .bool true)] := F.sub _
  refine X.thenN ?_
  refine Y.ret ?_
  refine X.thenR ?_
  exact Y.ret0 (v := .agg #[Vi 0, Vi 0]) F (Y.rc1 F rfl (Try.agg69 _) (Try.siz69 _) (by kernel_rfl) hV6) ⟨by rw [bestV_done x (by omega)], hE, hM⟩
theorem best_any (bq bm : Nat) (gq : Int) (p : Nd) (h : NdOk p) (hbm : ¬ bq = bm) : ∀ (f : Nat) (t x : Int) (w : World), (10000 - t).toNat ≤ f → (0 ≤ t ∧ t ≤ 10000) → (0 ≤ x ∧ x ≤ p.bu) → Pq w bq gq p.aw p.za p.bu p.re p.hold p.T bm → Memo w bm (gdV p) → Calls Try.prog 48 #[.pointer (some ⟨bq, 0, none⟩), .agg #[.int .i64 t, .int .i64 x]] w (fun e w' => e = .returned (.agg #[.int .i64 (bestV p t x).1, .int .i64 (bestV p t x).2]) ∧ Only (fun b => b = bm) w w' ∧ Memo w' bm (gdV p)) := by
 intro f
 induction f with
 | zero =>
  intro t x w hf ht hx hq hM
  have := h.t1
  have := h.b1
  exact best_step bq bm gq p t x w hq h ht ⟨hx.1, by omega⟩ hx.2 hbm hM (fun hT => by omega)
 | succ f ih =>
  intro t x w hf ht hx hq hM
  have := h.b1
  exact best_step bq bm gq p t x w hq h ht ⟨hx.1, by omega⟩ hx.2 hbm hM (fun hT t' x' w' h1 h2 h3 h4 h5 => ih t' x' w' (by omega) h2 h3 h4 h5)
end
section
open Go.RowKit

/-- a new map -/
def MP.mkm (B : Nat) : Y.MP := ⟨fun v W => ∃ m, v = .map (some m) ∧ W.heap[m]? = some (.map #[] 0) ∧ B ≤ m, fun _ _ _ ⟨m, h1, h2, h3⟩ g => ⟨m, h1, (g.below.block _ (Array.getElem?_eq_some_iff.1 h2).1).trans h2, h3⟩⟩
def MP.mka (B : Nat) (a b c d e f g : Int) : Y.MP := ⟨fun v W => ∃ m, v = .agg #[.int .i64 a, .int .i64 b, .int .i64 c, .int .i64 d, .int .i64 e, .int .i64 f, .int .i64 g, .map (some m)] ∧ W.heap[m]? = some (.map #[] 0) ∧ B ≤ m, fun _ _ _ ⟨m, h1, h2, h3⟩ g => ⟨m, h1, (g.below.block _ (Array.getElem?_eq_some_iff.1 h2).1).trans h2, h3⟩⟩
def MP.mkb (B : Nat) (a b c d e f g : Int) : Y.MP := ⟨fun v W => ∃ q m, v = .pointer (some ⟨q, 0, none⟩) ∧ Pq W q a b c d e f g m ∧ W.heap[m]? = some (.map #[] 0) ∧ B ≤ q ∧ B ≤ m ∧ ¬ q = m, fun _ _ _ ⟨q, m, h1, h2, h3, h4⟩ g => ⟨q, m, h1, h2.gr g, (g.below.block _ (Array.getElem?_eq_some_iff.1 h3).1).trans h3, h4⟩⟩
theorem pq_new {a b c d e f g : Int} {m : Nat} (W : World) : Pq (W.alloc (.cells #[.int .i64 a, .int .i64 b, .int .i64 c, .int .i64 d, .int .i64 e, .int .i64 f, .int .i64 g, .map (some m)] 110)) W.heap.size a b c d e f g m :=
  (RCells.nil W).box (b := W.heap.size) #[Vi a, Vi b, Vi c, Vi d, Vi e, Vi f, Vi g, .map (some m)] 110 rfl
/-- a node's numbers -/
def ndV (nd : List (List Int)) (hold : Int) (i : Nat) (T : Int) : Nd := ⟨cv nd i 1, cv nd i 2, cv nd i 3, cv nd i 4, hold, T⟩
theorem ndOk_of {gr hold : Int} {nd : List (List Int)} (h : CluOk gr hold nd) {i : Nat} {T : Int} (hi : i < nd.length) (h0 : 0 ≤ T) (h1 : T ≤ 1001) : NdOk (ndV nd hold i T) := by
  have a := h.awk i hi
  have b := h.asl i hi
  have c := h.bud i hi
  have d := h.ref i hi
  have e := h.h1
  have f := h.h100
  exact ⟨b.1, b.2, a.2, c.1, c.2, d.1, d.2, e, by show hold ≤ 103; omega, h0, h1⟩
def sumN (nd : List (List Int)) (hold T : Int) : Nat → Int
  | 0 => 0
  | i + 1 => sumN nd hold T i + (bestV (ndV nd hold i T) 0 (cv nd i 3)).1
def sumP (nd : List (List Int)) (hold T : Int) : Int := sumN nd hold T nd.length
theorem sumN_bd {gr hold : Int} {nd : List (List Int)} (h : CluOk gr hold nd) {T : Int} (h0 : 0 ≤ T) (h1 : T ≤ 1001) : ∀ i, i ≤ nd.length → 0 ≤ sumN nd hold T i ∧ sumN nd hold T i ≤ i * 11000000
  | 0, _ => by simp [sumN]
  | i + 1, hi => by
    have ih := sumN_bd h h0 h1 i (by omega)
    have c := h.bud i (by omega)
    have := bestV_bd (ndOk_of h (i := i) (by omega) h0 h1) (t := 0) (x := cv nd i 3) (by omega) c.1 (Int.le_refl _)
    simp only [sumN]
    omega
def nodeE (gr hold : Int) (nd : List (List Int)) (i T : Int) : Int := if ticksE gr hold nd T ≠ 0 then ticksE gr hold nd T else if withinB i 0 ((nd.length : Int) - 1) then 0 else 1
def parkV (gr hold : Int) (nd : List (List Int)) (T : Int) : Int := if ticksE gr hold nd T = 0 then sumP nd hold T else 0

set_option maxRecDepth 100000 in
set_option maxHeartbeats 400000 in
theorem newp_any (na : Option Addr) (n nc : Nat) (hold : Int) (i : Nat) (T gr : Int) (nd : List (List Int)) (w : World) (hnd : StAt w 5 na n nd) (hi : i < n) :
  Calls Try.prog 47 #[.agg #[Vi gr, Vi hold, .slice na n nc], Vi i, Vi T] w fun e w' => ∃ q m, e = .returned (Vp q) ∧ Pq w' q (cv nd i 0) (ndV nd hold i T).aw (ndV nd hold i T).za (ndV nd hold i T).bu (ndV nd hold i T).re (ndV nd hold i T).hold (ndV nd hold i T).T m ∧ Memo w' m (gdV (ndV nd hold i T)) ∧ w.heap.size ≤ q ∧ w.heap.size ≤ m ∧ ¬ q = m ∧ Gr w w' := by
 have G := Gr.refl w
 refine Y.calls 18 Try.func47 rfl rfl ?_
 intro ac F0
 have F : Fr ac 18 [(0, .agg #[Vi gr, Vi hold, .slice na n nc]), (1, Vi i), (2, Vi T)] := F0.sub _
 clear F0
 refine Y.seq ?_
 refine Y.lit (by kernel_rfl) ?_
 refine Y.pv F (X.box rfl (F.e 0 rfl) X.bx) ?_;clear F ac;intro ac F
 have g := Gr.alloc w (.cells #[Vi gr, Vi hold, .slice na n nc] 24)
 have hb := heap_alloc_new w (.cells #[Vi gr, Vi hold, .slice na n nc] 24)
 have hbl : w.heap.size < (w.alloc (.cells #[Vi gr, Vi hold, .slice na n nc] 24)).heap.size := by simp
 have hC2 : RCells (w.alloc (.cells #[Vi gr, Vi hold, .slice na n nc] 24)) [(Ad w.heap.size 0, Vi gr), (Ad w.heap.size 1, Vi hold), (Ad w.heap.size 2, .slice na n nc)] := (RCells.nil w).box (b := w.heap.size) #[Vi gr, Vi hold, .slice na n nc] 24 rfl
 generalize w.alloc (.cells #[Vi gr, Vi hold, .slice na n nc] 24) = w3 at *
 replace G := G.trans g
 have hC := hC2
 clear hC2
 replace hnd := hnd.gr g
 clear g hb hbl
 refine Y.pv F (X.assign rfl (X.kc (.pointer none) rfl)) ?_;clear F ac;intro ac F
 refine Y.nil ?_
 replace F : Fr ac 18 [(0, .agg #[Vi gr, Vi hold, .slice na n nc]), (1, Vi i), (2, Vi T), (3, Vp w.heap.size), (6, .pointer none)] := F.sub _
 refine X.thenN ?_
 refine Y.seq ?_
 obtain ⟨pd4, pe4, -, -, pc4⟩ := hnd.at (j := i) (by omega)
 subst pe4
 replace hC : RCells w3 [(Ad w.heap.size 0, Vi gr), (Ad w.heap.size 1, Vi hold), (Ad w.heap.size 2, .slice (some pd4) n nc), (pd4.add (i * 5), Vi (cv nd i 0)), (⟨(pd4.add (i * 5)).block, (pd4.add (i * 5)).off + 1, none⟩, Vi (cv nd i 1)), (⟨(pd4.add (i * 5)).block, (pd4.add (i * 5)).off + 2, none⟩, Vi (cv nd i 2)), (⟨(pd4.add (i * 5)).block, (pd4.add (i * 5)).off + 3, none⟩, Vi (cv nd i 3)), (⟨(pd4.add (i * 5)).block, (pd4.add (i * 5)).off + 4, none⟩, Vi (cv nd i 4))] := hC.append ((RCells.cons (pc4 0 (by decide)) (RCells.cons (pc4 1 (by decide)) (RCells.cons (pc4 2 (by decide)) (RCells.cons (pc4 3 (by decide)) (RCells.cons (pc4 4 (by decide)) (RCells.nil _)))))))
 clear pc4
 have G0_ := G
 refine Y.region F [some (.pointer (some ⟨w.heap.size, 2, none⟩)), some (.slice (some pd4) n nc), some (Vi i), some (.pointer (some (pd4.add (i * 5)))), some (.agg #[Vi (cv nd i 0), Vi (cv nd i 1), Vi (cv nd i 2), Vi (cv nd i 3), Vi (cv nd i 4)]), some (.pointer (some ⟨w.heap.size, 1, none⟩)), some (Vi hold), some (Vi T), none, none, none, none] [(8, MP.mkm w3.heap.size), (9, MP.mka w3.heap.size (cv nd i 0) (cv nd i 1) (cv nd i 2) (cv nd i 3) (cv nd i 4) hold T), (10, MP.mkb w3.heap.size (cv nd i 0) (cv nd i 1) (cv nd i 2) (cv nd i 3) (cv nd i 4) hold T), (11, MP.mkb w3.heap.size (cv nd i 0) (cv nd i 1) (cv nd i 2) (cv nd i 3) (cv nd i 4) hold T)] rfl ⟨by kernel_rfl, of_decide_eq_true (by kernel_rfl), by kernel_rfl, by kernel_rfl, by kernel_rfl⟩ ⟨?_, ?_, ?_, ?_, ?_, ?_, ?_, ?_, ?_, ?_, ?_, ?_, trivial⟩ ?_
 ·intro ac done u W Sx hR
  exact X.vl (X.field rfl (Sx.ev 3 (Vp w.heap.size)) (X.fld Try.underlying24 rfl (Try.siz22 _) rfl rfl)) hR.st0
 ·intro ac done u W Sx hR
  have g : Gr w3 W := hR.1
  exact X.vl (X.load rfl (Sx.ev 7 (.pointer (some ⟨w.heap.size, 2, none⟩))) (X.ld1 (Try.agg22 _) ((hC.gr g).at 2 rfl))) hR.st0
 ·intro ac done u W Sx hR
  exact X.vl (X.move rfl (Sx.ev 1 (Vi i))) hR.st0
 ·intro ac done u W Sx hR
  exact X.vl (X.index rfl (Sx.ev 8 (.slice (some pd4) n nc)) (Sx.ev 9 (Vi i)) (X.idx (k := i) Try.underlying22 (Try.siz31 _) (by omega) (by omega) rfl)) hR.st0
 ·intro ac done u W Sx hR
  have g : Gr w3 W := hR.1
  exact X.vl (X.load rfl (Sx.ev 10 (.pointer (some (pd4.add (i * 5))))) (X.ldN (Try.agg31 _) (Try.siz31 _) (Y.atz (pd4.add (i * 5)) (Y.AtFrom.cons ((hC.gr g).at 3 rfl) (Y.AtFrom.cons ((hC.gr g).at 4 rfl) (Y.AtFrom.cons ((hC.gr g).at 5 rfl) (Y.AtFrom.cons ((hC.gr g).at 6 rfl) (Y.AtFrom.cons ((hC.gr g).at 7 rfl) (Y.AtFrom.nil _ _ _))))))))) hR.st0
 ·intro ac done u W Sx hR
  exact X.vl (X.field rfl (Sx.ev 3 (Vp w.heap.size)) (X.fld Try.underlying24 rfl (Try.siz3 _) rfl rfl)) hR.st0
 ·intro ac done u W Sx hR
  have g : Gr w3 W := hR.1
  exact X.vl (X.load rfl (Sx.ev 12 (.pointer (some ⟨w.heap.size, 1, none⟩))) (X.ld1 (Try.agg3 _) ((hC.gr g).at 1 rfl))) hR.st0
 ·intro ac done u W Sx hR
  exact X.vl (X.move rfl (Sx.ev 2 (Vi T))) hR.st0
 ·intro ac done u W Sx hR
  have g : Gr w3 W := hR.1
  exact X.valN (X.w0 rfl) rfl (X.mm rfl) (hR.new (q := MP.mkm w3.heap.size) (Gr.alloc _ _) rfl ⟨_, rfl, World.alloc_heap_new _ _, g.size⟩)
 ·intro ac done u W Sx hR
  obtain ⟨mm5, e8, hm5, hB5⟩ := hR.get (i := 8) (MP.mkm w3.heap.size) rfl (Sx.an 8 (by kernel_rfl))
  exact X.valN (X.w0 rfl) rfl (Y.bd rfl (Y.bd4 (Sx.ev 11 (.agg #[Vi (cv nd i 0), Vi (cv nd i 1), Vi (cv nd i 2), Vi (cv nd i 3), Vi (cv nd i 4)])) (Sx.ev 13 (Vi hold)) (Sx.ev 14 (Vi T)) ((Sx.own 8 15 rfl).trans e8)) (Try.bd110 _ _ _ _ _ _ _ _ _)) (hR.new (q := MP.mka w3.heap.size (cv nd i 0) (cv nd i 1) (cv nd i 2) (cv nd i 3) (cv nd i 4) hold T) (Gr.refl _) rfl ⟨_, rfl, hm5, hB5⟩)
 ·intro ac done u W Sx hR
  have g : Gr w3 W := hR.1
  obtain ⟨mm6, e9, hm6, hB6⟩ := hR.get (i := 9) (MP.mka w3.heap.size (cv nd i 0) (cv nd i 1) (cv nd i 2) (cv nd i 3) (cv nd i 4) hold T) rfl (Sx.an 9 (by kernel_rfl))
  exact X.valN (X.w0 rfl) rfl (X.box rfl ((Sx.own 9 16 rfl).trans e9) X.bx) (hR.new (q := MP.mkb w3.heap.size (cv nd i 0) (cv nd i 1) (cv nd i 2) (cv nd i 3) (cv nd i 4) hold T) (Gr.alloc _ _) rfl ⟨_, _, rfl, pq_new W, (Below.heap_alloc _ _ _ (Array.getElem?_eq_some_iff.1 hm6).1).trans hm6, g.size, hB6, fun e => by have := (Array.getElem?_eq_some_iff.1 hm6).1; omega⟩)
 ·intro ac done u W Sx hR
  obtain ⟨qq7, mm7, e10, hP7, hm7, hA7, hB7, hN7⟩ := hR.get (i := 10) (MP.mkb w3.heap.size (cv nd i 0) (cv nd i 1) (cv nd i 2) (cv nd i 3) (cv nd i 4) hold T) rfl (Sx.an 10 (by kernel_rfl))
  exact X.valN (X.w0 rfl) rfl (X.assign rfl (Sx.own 10 17 rfl)) (hR.new (q := MP.mkb w3.heap.size (cv nd i 0) (cv nd i 1) (cv nd i 2) (cv nd i 3) (cv nd i 4) hold T) (Gr.refl _) rfl ⟨_, _, e10, hP7, hm7, hA7, hB7, hN7⟩)
 intro ac u w9 hs hd hl ho hR
 have g : Gr w3 w9 := hR.1
 obtain ⟨mm5, e8, hm5, hB5⟩ := hR.get (i := 8) (MP.mkm w3.heap.size) rfl rfl
 obtain ⟨mm6, e9, hm6, hB6⟩ := hR.get (i := 9) (MP.mka w3.heap.size (cv nd i 0) (cv nd i 1) (cv nd i 2) (cv nd i 3) (cv nd i 4) hold T) rfl rfl
 obtain ⟨qq7, mm7, e10, hP7, hm7, hA7, hB7, hN7⟩ := hR.get (i := 10) (MP.mkb w3.heap.size (cv nd i 0) (cv nd i 1) (cv nd i 2) (cv nd i 3) (cv nd i 4) hold T) rfl rfl
 obtain ⟨qq8, mm8, e11, hP8, hm8, hA8, hB8, hN8⟩ := hR.get (i := 11) (MP.mkb w3.heap.size (cv nd i 0) (cv nd i 1) (cv nd i 2) (cv nd i 3) (cv nd i 4) hold T) rfl rfl
 replace F : Fr ac 18 [(0, .agg #[Vi gr, Vi hold, .slice (some pd4) n nc]), (1, Vi i), (2, Vi T), (3, Vp w.heap.size)] := X.fr hs hd hl _ (by kernel_rfl)
 replace F := F.add (ho 11 6 rfl) e11
 replace F : Fr ac 18 [(0, .agg #[Vi gr, Vi hold, .slice (some pd4) n nc]), (1, Vi i), (2, Vi T), (3, Vp w.heap.size), (6, Vp qq8)] := F.sub _
 clear e8 e9 e10 e11
 clear hs hd hl ho hR
 replace G := G.trans g
 replace hC := hC.gr g
 replace hnd := hnd.gr g
 clear g
 have hA8_ : w.heap.size ≤ qq8 := by have := G0_.size; omega
 have hB8_ : w.heap.size ≤ mm8 := by have := G0_.size; omega
 refine X.thenN ?_
 refine Y.ret ?_
 exact Y.ret0 F (Y.rs1 F rfl (by kernel_rfl)) ⟨_, _, rfl, hP8.gr (Gr.refl _), memo_new hm8, hA8_, hB8_, hN8, G⟩
end
end Go.Proofs.Ytoalamakhjbedaa
