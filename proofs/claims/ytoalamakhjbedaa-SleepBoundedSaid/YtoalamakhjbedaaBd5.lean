/- Contract: stay. -/
import Derived.Test.YtoalamakhjbedaaBd4
namespace Go.Proofs.Ytoalamakhjbedaa
open Go.RowKit

set_option maxRecDepth 100000 in
set_option maxHeartbeats 1000000 in
theorem stay_any (bq bm : Nat) (gq : Int) (p : Nd) (t x : Int) (w : World) (hq : Pq w bq gq p.aw p.za p.bu p.re p.hold p.T bm) (h : NdOk p) (ht : 0 ≤ t ∧ t ≤ 100000) (hx : 0 ≤ x ∧ x ≤ 100000) :
  Calls Try.prog 63 #[.pointer (some ⟨bq, 0, none⟩), .agg #[.int .i64 t, .int .i64 x]] w fun e w' => e = .returned (.tuple #[.agg #[.int .i64 (t + 1), .int .i64 (refV p t x)], .agg #[.int .i64 p.za, .int .i64 0]]) ∧ Gr w w' := by
 have G := Gr.refl w
 have hC : RCells w (PqC bq gq p.aw p.za p.bu p.re p.hold p.T bm) := hq
 have hbq := hq.lt
 have ha0 := h.a0
 have ha1 := h.a1
 have ha2 := h.a2
 have hb0 := h.b0
 have hb1 := h.b1
 have hr0 := h.r0
 have hr1 := h.r1
 have hh0 := h.h0
 have hh1 := h.h1
 have ht0_ := h.t0
 have ht1_ := h.t1
 refine Y.calls 19 Try.func63 rfl rfl ?_
 intro ac F0
 have F : Fr ac 19 [(0, .pointer (some ⟨bq, 0, none⟩)), (1, .agg #[.int .i64 t, .int .i64 x])] := F0.sub _
 clear F0
 refine Y.seq ?_
 refine Y.lit (by kernel_rfl) ?_
 refine Y.pval F (X.w0 rfl) rfl (X.box rfl (F.ev 1 (.agg #[.int .i64 t, .int .i64 x])) X.bx) ?_
 clear F ac
 intro ac F
 have hq3 : bq < w.heap.size := lt_cell (hC.at 0 rfl)
 have g := Gr.alloc w (.cells #[.int .i64 t, .int .i64 x] 72)
 have hb := heap_alloc_new w (.cells #[.int .i64 t, .int .i64 x] 72)
 have hbl : w.heap.size < (w.alloc (.cells #[.int .i64 t, .int .i64 x] 72)).heap.size := by simp
 have hC2 : RCells (w.alloc (.cells #[.int .i64 t, .int .i64 x] 72)) [(⟨bq, 0, none⟩, .int .i64 gq), (⟨bq, 1, none⟩, .int .i64 p.aw), (⟨bq, 2, none⟩, .int .i64 p.za), (⟨bq, 3, none⟩, .int .i64 p.bu), (⟨bq, 4, none⟩, .int .i64 p.re), (⟨bq, 5, none⟩, .int .i64 p.hold), (⟨bq, 6, none⟩, .int .i64 p.T), (⟨bq, 7, none⟩, .map (some bm)), (⟨w.heap.size, 0, none⟩, .int .i64 t), (⟨w.heap.size, 1, none⟩, .int .i64 x)] := hC.box (b := w.heap.size) #[.int .i64 t, .int .i64 x] 72 rfl
 generalize w.alloc (.cells #[.int .i64 t, .int .i64 x] 72) = w4 at *
 replace G := G.trans g
 replace hC := hC2
 clear hC2
 replace hq := hq.gr g
 clear g hb hbl
 refine Y.pval F (X.w0 rfl) rfl (Y.al rfl (Try.new72 _)) ?_
 clear F ac
 intro ac F
 have hgshV5 := G.size
 have hq6 : bq < w4.heap.size := lt_cell (hC.at 0 rfl)
 have hq7 : w.heap.size < w4.heap.size := lt_cell (hC.at 8 rfl)
 have g := Gr.alloc w4 (.cells #[.int .i64 0, .int .i64 0] 72)
 have hb := heap_alloc_new w4 (.cells #[.int .i64 0, .int .i64 0] 72)
 have hbl : w4.heap.size < (w4.alloc (.cells #[.int .i64 0, .int .i64 0] 72)).heap.size := by simp
 generalize w4.alloc (.cells #[.int .i64 0, .int .i64 0] 72) = w8 at *
 replace G := G.trans g
 replace hC := hC.gr g
 replace hq := hq.gr g
 have hV5 := ownP_2 hb
 clear g hb hbl
 refine Y.pval F (X.w0 rfl) rfl (Y.al rfl (Try.new69 _)) ?_
 clear F ac
 intro ac F
 have hgshV9 := G.size
 have hq10 : w4.heap.size < w8.heap.size := hV5.lt
 have hq11 : bq < w8.heap.size := lt_cell (hC.at 0 rfl)
 have hq12 : w.heap.size < w8.heap.size := lt_cell (hC.at 8 rfl)
 have g := Gr.alloc w8 (.cells #[.int .i64 0, .int .i64 0] 69)
 have hb := heap_alloc_new w8 (.cells #[.int .i64 0, .int .i64 0] 69)
 have hbl : w8.heap.size < (w8.alloc (.cells #[.int .i64 0, .int .i64 0] 69)).heap.size := by simp
 generalize w8.alloc (.cells #[.int .i64 0, .int .i64 0] 69) = w13 at *
 replace G := G.trans g
 replace hC := hC.gr g
 replace hq := hq.gr g
 replace hV5 := hV5.gr g
 have hV9 := ownP_2 hb
 clear g hb hbl
 refine Y.nil ?_
 replace F : Fr ac 19 [(0, .pointer (some ⟨bq, 0, none⟩)), (1, .agg #[.int .i64 t, .int .i64 x]), (3, .pointer (some ⟨w.heap.size, 0, none⟩)), (4, .pointer (some ⟨w4.heap.size, 0, none⟩)), (5, .pointer (some ⟨w8.heap.size, 0, none⟩))] := F.sub _
 refine X.thenN ?_
 refine Y.seq ?_
 refine region_xi F [some (.pointer (some ⟨w.heap.size, 0, none⟩)), some (.int .i64 t), some (.int .i64 ((t : Int) + 1)), some (.pointer (some ⟨bq, 0, none⟩)), some (.agg #[.int .i64 t, .int .i64 x]), some (.int .i64 (refV p t x)), some (.agg #[.int .i64 ((t : Int) + 1), .int .i64 (refV p t x)]), some (.pointer (some ⟨bq, 0, none⟩)), some (.pointer (some ⟨bq, 0, none⟩)), some (.pointer (some ⟨bq, 0, none⟩)), some (.pointer (some ⟨bq, 2, none⟩)), some (.int .i64 p.za), some (.agg #[.int .i64 p.za, .int .i64 0]), none, none] (RT2 w13 (w4.heap.size) 13 (w8.heap.size) 14 (VL [.int .i64 0, .int .i64 0]) (VL [.int .i64 ((t : Int) + 1), .int .i64 (refV p t x)]) (VL [.int .i64 0, .int .i64 0]) (VL [.int .i64 p.za, .int .i64 0])) rfl ⟨by kernel_rfl, of_decide_eq_true (by kernel_rfl), by kernel_rfl, by kernel_rfl, by kernel_rfl⟩ (fun _ => ⟨RT2.start (Gr.refl _) hV5 hV9, RT2.start (Gr.drew _) hV5 hV9⟩) ⟨?_, ?_, ?_, ?_, ?_, ?_, ?_, ?_, ?_, ?_, ?_, ?_, ?_, ?_, ?_, trivial⟩ ?_
 ·intro ac done u W Sx hR
  exact X.val (X.w0 rfl) rfl (X.field rfl (Sx.ev 3 (.pointer (some ⟨w.heap.size, 0, none⟩))) (X.fld Try.underlying72 rfl (Try.siz3 _) rfl rfl)) (hR.quiet (by decide))
 ·intro ac done u W Sx hR
  exact X.val (X.w0 rfl) rfl (X.load rfl (Sx.ev 6 (.pointer (some ⟨w.heap.size, 0, none⟩))) (X.ld1 (Try.agg3 _) (hR.o.cell (hC.at 8 rfl) (by show ¬ (w.heap.size = w4.heap.size ∨ w.heap.size = w8.heap.size); omega)))) (hR.quiet (by decide))
 ·intro ac done u W Sx hR
  exact X.val (X.w0 rfl) rfl (X.binop rfl (Sx.ev 7 (.int .i64 t)) (X.kc (.int .i64 1) rfl) (X.addI Try.underlying3 rfl (by omega) (by omega))) (hR.quiet (by decide))
 ·intro ac done u W Sx hR
  exact X.val (X.w0 rfl) rfl (X.move rfl (Sx.ev 0 (.pointer (some ⟨bq, 0, none⟩)))) (hR.quiet (by decide))
 ·intro ac done u W Sx hR
  exact X.val (X.w0 rfl) rfl (X.load rfl (Sx.ev 3 (.pointer (some ⟨w.heap.size, 0, none⟩))) (X.ldN (Try.agg72 _) (Try.siz72 _) (Y.atz (⟨w.heap.size, 0, none⟩) (Y.AtFrom.cons (hR.o.cell (hC.at 8 rfl) (by show ¬ (w.heap.size = w4.heap.size ∨ w.heap.size = w8.heap.size); omega)) (Y.AtFrom.cons (hR.o.cell (hC.at 9 rfl) (by show ¬ (w.heap.size = w4.heap.size ∨ w.heap.size = w8.heap.size); omega)) (Y.AtFrom.nil _ _ _)))))) (hR.quiet (by decide))
 ·intro ac done u W Sx hR
  refine X.call (X.w0 rfl) (X.enter (F := 77) rfl (X.kc (.func (.func 77) #[] #[]) rfl) (X.a2 (Sx.ev 9 (.pointer (some ⟨bq, 0, none⟩))) (Sx.ev 10 (.agg #[.int .i64 t, .int .i64 x]))) (enters_of Try.func77 (by kernel_rfl) rfl _)) (refilled_any bq bm gq p t x W (hq.only hR.o (by show ¬ (bq = w4.heap.size ∨ bq = w8.heap.size); omega)) h (by omega) (by omega)) ?_
  rintro e W2 ⟨rfl, g2⟩
  exact ⟨_, rfl, X.kn rfl, hR.grow (by decide) g2⟩
 ·intro ac done u W Sx hR
  exact X.val (X.w0 rfl) rfl (Y.bd rfl (Y.bd2 (Sx.ev 8 (.int .i64 ((t : Int) + 1))) (Sx.ev 11 (.int .i64 (refV p t x)))) (Try.bd72 _ _ _)) (hR.quiet (by decide))
 ·intro ac done u W Sx hR
  exact X.val (X.w0 rfl) rfl (X.move rfl (Sx.ev 0 (.pointer (some ⟨bq, 0, none⟩)))) (hR.quiet (by decide))
 ·intro ac done u W Sx hR
  exact X.val (X.w0 rfl) rfl (Y.nilC rfl (Sx.ev 13 (.pointer (some ⟨bq, 0, none⟩)))) (hR.quiet (by decide))
 ·intro ac done u W Sx hR
  exact X.val (X.w0 rfl) rfl (X.field rfl (Sx.ev 14 (.pointer (some ⟨bq, 0, none⟩))) (X.fld Try.underlying110 rfl (Try.siz31 _) rfl rfl)) (hR.quiet (by decide))
 ·intro ac done u W Sx hR
  exact X.val (X.w0 rfl) rfl (X.field rfl (Sx.ev 15 (.pointer (some ⟨bq, 0, none⟩))) (X.fld Try.underlying31 rfl (Try.siz3 _) rfl rfl)) (hR.quiet (by decide))
 ·intro ac done u W Sx hR
  exact X.val (X.w0 rfl) rfl (X.load rfl (Sx.ev 16 (.pointer (some ⟨bq, 2, none⟩))) (X.ld1 (Try.agg3 _) (hR.o.cell (hC.at 2 rfl) (by show ¬ (bq = w4.heap.size ∨ bq = w8.heap.size); omega)))) (hR.quiet (by decide))
 ·intro ac done u W Sx hR
  exact X.val (X.w0 rfl) rfl (Y.bd rfl (Y.bd1 (Sx.ev 17 (.int .i64 p.za))) (Try.bd69a _ _)) (hR.quiet (by decide))
 ·intro ac done u W Sx hR
  obtain ⟨W2, hrun, hS2, hon⟩ := (hR.p1 Sx.nd).st2 (P := Try.prog) (t := 72) (x := .int .i64 ((t : Int) + 1)) (y := .int .i64 (refV p t x)) (fun W => Try.siz72 W) rfl rfl
  exact X.unit (X.w0 rfl) rfl (X.store rfl (Sx.ev 4 (.pointer (some ⟨w4.heap.size, 0, none⟩))) (Sx.ev 12 (.agg #[.int .i64 ((t : Int) + 1), .int .i64 (refV p t x)])) hrun) (hR.st1 (by decide) (by omega) hS2 hon)
 ·intro ac done u W Sx hR
  obtain ⟨W2, hrun, hS2, hon⟩ := (hR.p2 Sx.nd).st2 (P := Try.prog) (t := 69) (x := .int .i64 p.za) (y := .int .i64 0) (fun W => Try.siz69 W) rfl rfl
  exact X.unit (X.w0 rfl) rfl (X.store rfl (Sx.ev 5 (.pointer (some ⟨w8.heap.size, 0, none⟩))) (Sx.ev 18 (.agg #[.int .i64 p.za, .int .i64 0])) hrun) (hR.st2 (by decide) (by omega) hS2 hon)
 rintro ac u w14 hs hd hl_ ho hR
 replace F : Fr ac 19 [(0, .pointer (some ⟨bq, 0, none⟩)), (1, .agg #[.int .i64 t, .int .i64 x]), (3, .pointer (some ⟨w.heap.size, 0, none⟩)), (4, .pointer (some ⟨w4.heap.size, 0, none⟩)), (5, .pointer (some ⟨w8.heap.size, 0, none⟩))] := X.fr hs hd hl_ _ (by kernel_rfl)
 have hon := hR.o
 replace hV5 := hR.q1 rfl
 replace hV9 := hR.q2 rfl
 replace G := ((G.only (fun b => w.heap.size ≤ b)).trans (hon.mono' (fun i e => by omega))).gr (fun i hi e => by omega)
 replace hq := hq.only hon (by show ¬ (bq = w4.heap.size ∨ bq = w8.heap.size); omega)
 replace hC : RCells w14 [(⟨bq, 0, none⟩, .int .i64 gq), (⟨bq, 1, none⟩, .int .i64 p.aw), (⟨bq, 2, none⟩, .int .i64 p.za), (⟨bq, 3, none⟩, .int .i64 p.bu), (⟨bq, 4, none⟩, .int .i64 p.re), (⟨bq, 5, none⟩, .int .i64 p.hold), (⟨bq, 6, none⟩, .int .i64 p.T), (⟨bq, 7, none⟩, .map (some bm)), (⟨w.heap.size, 0, none⟩, .int .i64 t), (⟨w.heap.size, 1, none⟩, .int .i64 x)] := (RCells.cons (hon.cell (hC.at 0 rfl) (by show ¬ (bq = w4.heap.size ∨ bq = w8.heap.size); omega)) (RCells.cons (hon.cell (hC.at 1 rfl) (by show ¬ (bq = w4.heap.size ∨ bq = w8.heap.size); omega)) (RCells.cons (hon.cell (hC.at 2 rfl) (by show ¬ (bq = w4.heap.size ∨ bq = w8.heap.size); omega)) (RCells.cons (hon.cell (hC.at 3 rfl) (by show ¬ (bq = w4.heap.size ∨ bq = w8.heap.size); omega)) (RCells.cons (hon.cell (hC.at 4 rfl) (by show ¬ (bq = w4.heap.size ∨ bq = w8.heap.size); omega)) (RCells.cons (hon.cell (hC.at 5 rfl) (by show ¬ (bq = w4.heap.size ∨ bq = w8.heap.size); omega)) (RCells.cons (hon.cell (hC.at 6 rfl) (by show ¬ (bq = w4.heap.size ∨ bq = w8.heap.size); omega)) (RCells.cons (hon.cell (hC.at 7 rfl) (by show ¬ (bq = w4.heap.size ∨ bq = w8.heap.size); omega)) (RCells.cons (hon.cell (hC.at 8 rfl) (by show ¬ (w.heap.size = w4.heap.size ∨ w.heap.size = w8.heap.size); omega)) (RCells.cons (hon.cell (hC.at 9 rfl) (by show ¬ (w.heap.size = w4.heap.size ∨ w.heap.size = w8.heap.size); omega)) (RCells.nil _)))))))))))
 clear hs hd hl_ ho hR hon
 refine X.thenN ?_
 refine Y.ret ?_
 exact Y.ret0 (v := .tuple #[.agg #[.int .i64 ((t : Int) + 1), .int .i64 (refV p t x)], .agg #[.int .i64 p.za, .int .i64 0]]) F (Y.rcc2 F rfl (Try.agg72 _) (Try.siz72 _) (Try.agg69 _) (Try.siz69 _) (by kernel_rfl) (by kernel_rfl) hV5 hV9) ⟨rfl, G⟩
end Go.Proofs.Ytoalamakhjbedaa
