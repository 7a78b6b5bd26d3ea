/- Several texts of this claim in one file. (1) Contracts: refilled, start, and. (2) Contract: wake. (3) Contract: better. -/
import Derived.Test.YtoalamakhjbedaaBd3
namespace Go.Proofs.Ytoalamakhjbedaa
section
open Go.RowKit

set_option maxRecDepth 100000 in
set_option maxHeartbeats 1000000 in
theorem refilled_any (bq bm : Nat) (gq : Int) (p : Nd) (t x : Int) (w : World) (hq : Pq w bq gq p.aw p.za p.bu p.re p.hold p.T bm) (h : NdOk p) (ht : 0 ≤ t ∧ t ≤ 100000) (hx : 0 ≤ x ∧ x ≤ 100000) :
  Calls Try.prog 77 #[.pointer (some ⟨bq, 0, none⟩), .agg #[.int .i64 t, .int .i64 x]] w fun e w' => e = .returned (.int .i64 (refV p t x)) ∧ Gr w w' := by
 have G := Gr.refl w
 have hC : RCells w (PqC bq gq p.aw p.za p.bu p.re p.hold p.T bm) := hq
 have hbq := hq.lt
 have ha0 := h.a0
 have ha1 := h.a1
 have ha2 := h.a2
 have hb0 := h.b0
 have hb1 := h.b1
 have hr0 := h.r0
 have hr1 := h.r1
 have hh0 := h.h0
 have hh1 := h.h1
 have ht0_ := h.t0
 have ht1_ := h.t1
 refine Y.calls 30 Try.func77 rfl rfl ?_
 intro ac F0
 have F : Fr ac 30 [(0, .pointer (some ⟨bq, 0, none⟩)), (1, .agg #[.int .i64 t, .int .i64 x])] := F0.sub _
 clear F0
 refine Y.seq ?_
 refine Y.lit (by kernel_rfl) ?_
 refine Y.pval F (X.w0 rfl) rfl (X.box rfl (F.ev 1 (.agg #[.int .i64 t, .int .i64 x])) X.bx) ?_
 clear F ac
 intro ac F
 have hq3 : bq < w.heap.size := lt_cell (hC.at 0 rfl)
 have g := Gr.alloc w (.cells #[.int .i64 t, .int .i64 x] 72)
 have hb := heap_alloc_new w (.cells #[.int .i64 t, .int .i64 x] 72)
 have hbl : w.heap.size < (w.alloc (.cells #[.int .i64 t, .int .i64 x] 72)).heap.size := by simp
 have hC2 : RCells (w.alloc (.cells #[.int .i64 t, .int .i64 x] 72)) [(⟨bq, 0, none⟩, .int .i64 gq), (⟨bq, 1, none⟩, .int .i64 p.aw), (⟨bq, 2, none⟩, .int .i64 p.za), (⟨bq, 3, none⟩, .int .i64 p.bu), (⟨bq, 4, none⟩, .int .i64 p.re), (⟨bq, 5, none⟩, .int .i64 p.hold), (⟨bq, 6, none⟩, .int .i64 p.T), (⟨bq, 7, none⟩, .map (some bm)), (⟨w.heap.size, 0, none⟩, .int .i64 t), (⟨w.heap.size, 1, none⟩, .int .i64 x)] := hC.box (b := w.heap.size) #[.int .i64 t, .int .i64 x] 72 rfl
 generalize w.alloc (.cells #[.int .i64 t, .int .i64 x] 72) = w4 at *
 replace G := G.trans g
 replace hC := hC2
 clear hC2
 replace hq := hq.gr g
 clear g hb hbl
 refine Y.pval F (X.w0 rfl) rfl (X.assign rfl (X.kc (.int .i64 0) rfl)) ?_
 clear F ac
 intro ac F
 refine Y.nil ?_
 replace F : Fr ac 30 [(0, .pointer (some ⟨bq, 0, none⟩)), (1, .agg #[.int .i64 t, .int .i64 x]), (3, .pointer (some ⟨w.heap.size, 0, none⟩)), (4, .int .i64 0)] := F.sub _
 refine X.thenN ?_
 refine Y.seq ?_
 refine Y.seq ?_
 cases h5 : decide ((0 : Int) < t) with
 | false =>
  try rw [h5] at F
  have h5p : ¬ ((0 : Int) < t) := of_decide_eq_false h5
  refine Y.region F [some (.pointer (some ⟨w.heap.size, 0, none⟩)), some (.int .i64 t), some (.bool false), some (.bool false), none, none, none, none, none, none, none, none, none, some (.bool false)] [] rfl ⟨by kernel_rfl, of_decide_eq_true (by kernel_rfl), by kernel_rfl, by kernel_rfl, by kernel_rfl⟩ ⟨?_, ?_, ?_, ?_, ?_, ?_, ?_, ?_, ?_, ?_, ?_, ?_, ?_, ?_, trivial⟩ ?_
  ·intro ac done u W Sx hR
   exact X.val (X.w0 rfl) rfl (X.field rfl (Sx.ev 3 (.pointer (some ⟨w.heap.size, 0, none⟩))) (X.fld Try.underlying72 rfl (Try.siz3 _) rfl rfl)) (hR.step (Gr.refl _) rfl)
  ·intro ac done u W Sx hR
   have g : Gr w4 W := hR.1
   exact X.val (X.w0 rfl) rfl (X.load rfl (Sx.ev 5 (.pointer (some ⟨w.heap.size, 0, none⟩))) (X.ld1 (Try.agg3 _) ((hC.gr g).at 8 rfl))) (hR.step (Gr.refl _) rfl)
  ·intro ac done u W Sx hR
   exact X.val (X.w0 rfl) rfl (X.binop rfl (Sx.ev 6 (.int .i64 t)) (X.kc (.int .i64 0) rfl) (X.gtrI Try.underlying3 h5)) (hR.step (Gr.refl _) rfl)
  ·intro ac done u W Sx hR
   exact X.val (X.w0 rfl) rfl (X.move rfl (Sx.ev 7 (.bool false))) (hR.step (Gr.refl _) rfl)
  ·intro ac done u W Sx hR
   exact X.skip (X.w2 rfl (Sx.yl 3 8 false (by kernel_rfl) rfl rfl) rfl) rfl (hR.skip rfl)
  ·intro ac done u W Sx hR
   exact X.skip (X.w2 rfl (Sx.yl 3 8 false (by kernel_rfl) rfl rfl) rfl) rfl (hR.skip rfl)
  ·intro ac done u W Sx hR
   exact X.skip (X.w2 rfl (Sx.yl 3 8 false (by kernel_rfl) rfl rfl) rfl) rfl (hR.skip rfl)
  ·intro ac done u W Sx hR
   exact X.skip (X.w2 rfl (Sx.yl 3 8 false (by kernel_rfl) rfl rfl) rfl) rfl (hR.skip rfl)
  ·intro ac done u W Sx hR
   exact X.skip (X.w2 rfl (Sx.yl 3 8 false (by kernel_rfl) rfl rfl) rfl) rfl (hR.skip rfl)
  ·intro ac done u W Sx hR
   exact X.skip (X.w2 rfl (Sx.yl 3 8 false (by kernel_rfl) rfl rfl) rfl) rfl (hR.skip rfl)
  ·intro ac done u W Sx hR
   exact X.skip (X.w2 rfl (Sx.yl 3 8 false (by kernel_rfl) rfl rfl) rfl) rfl (hR.skip rfl)
  ·intro ac done u W Sx hR
   exact X.skip (X.w2 rfl (Sx.yl 3 8 false (by kernel_rfl) rfl rfl) rfl) rfl (hR.skip rfl)
  ·intro ac done u W Sx hR
   exact X.skip (X.w2 rfl (Sx.yl 3 8 false (by kernel_rfl) rfl rfl) rfl) rfl (hR.skip rfl)
  ·intro ac done u W Sx hR
   exact X.val (X.w0 rfl) rfl (X.pickF rfl (Sx.ev 8 (.bool false)) (X.kc (.bool false) rfl)) (hR.step (Gr.refl _) rfl)
  intro ac u w6 hs hd hl ho hR
  have g : Gr w4 w6 := hR.1
  replace F : Fr ac 30 [(0, .pointer (some ⟨bq, 0, none⟩)), (1, .agg #[.int .i64 t, .int .i64 x]), (3, .pointer (some ⟨w.heap.size, 0, none⟩)), (4, .int .i64 0), (18, .bool false)] := X.fr hs hd hl _ (by kernel_rfl)
  clear hs hd hl ho hR
  replace G := G.trans g
  replace hC := hC.gr g
  replace hq := hq.gr g
  clear g
  refine X.thenN ?_
  refine Y.condF (F.ev 18 (.bool false)) ?_
  refine Y.skip ?_
  refine X.thenN ?_
  refine Y.seq ?_
  refine Y.lit (by kernel_rfl) ?_
  refine Y.pval F (X.w0 rfl) rfl (X.field rfl (F.ev 3 (.pointer (some ⟨w.heap.size, 0, none⟩))) (X.fld Try.underlying72 rfl (Try.siz3 _) rfl rfl)) ?_
  clear F ac
  intro ac F
  refine Y.pval F (X.w0 rfl) rfl (X.load rfl (F.ev 28 (.pointer (some ⟨w.heap.size, 1, none⟩))) (X.ld1 (Try.agg3 _) (hC.at 9 rfl))) ?_
  clear F ac
  intro ac F
  refine Y.pval F (X.w0 rfl) rfl (X.assign rfl (F.ev 29 (.int .i64 x))) ?_
  clear F ac
  intro ac F
  refine Y.nil ?_
  replace F : Fr ac 30 [(0, .pointer (some ⟨bq, 0, none⟩)), (1, .agg #[.int .i64 t, .int .i64 x]), (3, .pointer (some ⟨w.heap.size, 0, none⟩)), (4, .int .i64 x), (18, .bool false)] := F.sub _
  refine X.thenN ?_
  refine Y.ret ?_
  exact Y.ret0 (v := .int .i64 x) F (Y.rs1 F rfl (by kernel_rfl)) ⟨by unfold refV; simp [h5p], G⟩
 | true =>
  try rw [h5] at F
  have h5p : ((0 : Int) < t) := of_decide_eq_true h5
  refine Y.region F [some (.pointer (some ⟨w.heap.size, 0, none⟩)), some (.int .i64 t), some (.bool true), some (.bool true), some (.pointer (some ⟨w.heap.size, 0, none⟩)), some (.int .i64 t), some (.pointer (some ⟨bq, 0, none⟩)), some (.pointer (some ⟨bq, 0, none⟩)), some (.pointer (some ⟨bq, 0, none⟩)), some (.pointer (some ⟨bq, 4, none⟩)), some (.int .i64 p.re), some (.int .i64 ((t : Int) % (p.re : Int))), some (.bool (((t : Int) % (p.re : Int) : Int) == 0)), some (.bool (((t : Int) % (p.re : Int) : Int) == 0))] [] rfl ⟨by kernel_rfl, of_decide_eq_true (by kernel_rfl), by kernel_rfl, by kernel_rfl, by kernel_rfl⟩ ⟨?_, ?_, ?_, ?_, ?_, ?_, ?_, ?_, ?_, ?_, ?_, ?_, ?_, ?_, trivial⟩ ?_
  ·intro ac done u W Sx hR
   exact X.val (X.w0 rfl) rfl (X.field rfl (Sx.ev 3 (.pointer (some ⟨w.heap.size, 0, none⟩))) (X.fld Try.underlying72 rfl (Try.siz3 _) rfl rfl)) (hR.step (Gr.refl _) rfl)
  ·intro ac done u W Sx hR
   have g : Gr w4 W := hR.1
   exact X.val (X.w0 rfl) rfl (X.load rfl (Sx.ev 5 (.pointer (some ⟨w.heap.size, 0, none⟩))) (X.ld1 (Try.agg3 _) ((hC.gr g).at 8 rfl))) (hR.step (Gr.refl _) rfl)
  ·intro ac done u W Sx hR
   exact X.val (X.w0 rfl) rfl (X.binop rfl (Sx.ev 6 (.int .i64 t)) (X.kc (.int .i64 0) rfl) (X.gtrI Try.underlying3 h5)) (hR.step (Gr.refl _) rfl)
  ·intro ac done u W Sx hR
   exact X.val (X.w0 rfl) rfl (X.move rfl (Sx.ev 7 (.bool true))) (hR.step (Gr.refl _) rfl)
  ·intro ac done u W Sx hR
   exact X.val (X.w1 rfl (Sx.yl 3 8 true (by kernel_rfl) rfl rfl)) rfl (X.field rfl (Sx.ev 3 (.pointer (some ⟨w.heap.size, 0, none⟩))) (X.fld Try.underlying72 rfl (Try.siz3 _) rfl rfl)) (hR.step (Gr.refl _) rfl)
  ·intro ac done u W Sx hR
   have g : Gr w4 W := hR.1
   exact X.val (X.w1 rfl (Sx.yl 3 8 true (by kernel_rfl) rfl rfl)) rfl (X.load rfl (Sx.ev 9 (.pointer (some ⟨w.heap.size, 0, none⟩))) (X.ld1 (Try.agg3 _) ((hC.gr g).at 8 rfl))) (hR.step (Gr.refl _) rfl)
  ·intro ac done u W Sx hR
   exact X.val (X.w1 rfl (Sx.yl 3 8 true (by kernel_rfl) rfl rfl)) rfl (X.move rfl (Sx.ev 0 (.pointer (some ⟨bq, 0, none⟩)))) (hR.step (Gr.refl _) rfl)
  ·intro ac done u W Sx hR
   exact X.val (X.w1 rfl (Sx.yl 3 8 true (by kernel_rfl) rfl rfl)) rfl (Y.nilC rfl (Sx.ev 11 (.pointer (some ⟨bq, 0, none⟩)))) (hR.step (Gr.refl _) rfl)
  ·intro ac done u W Sx hR
   exact X.val (X.w1 rfl (Sx.yl 3 8 true (by kernel_rfl) rfl rfl)) rfl (X.field rfl (Sx.ev 12 (.pointer (some ⟨bq, 0, none⟩))) (X.fld Try.underlying110 rfl (Try.siz31 _) rfl rfl)) (hR.step (Gr.refl _) rfl)
  ·intro ac done u W Sx hR
   exact X.val (X.w1 rfl (Sx.yl 3 8 true (by kernel_rfl) rfl rfl)) rfl (X.field rfl (Sx.ev 13 (.pointer (some ⟨bq, 0, none⟩))) (X.fld Try.underlying31 rfl (Try.siz3 _) rfl rfl)) (hR.step (Gr.refl _) rfl)
  ·intro ac done u W Sx hR
   have g : Gr w4 W := hR.1
   exact X.val (X.w1 rfl (Sx.yl 3 8 true (by kernel_rfl) rfl rfl)) rfl (X.load rfl (Sx.ev 14 (.pointer (some ⟨bq, 4, none⟩))) (X.ld1 (Try.agg3 _) ((hC.gr g).at 4 rfl))) (hR.step (Gr.refl _) rfl)
  ·intro ac done u W Sx hR
   exact X.val (X.w1 rfl (Sx.yl 3 8 true (by kernel_rfl) rfl rfl)) rfl (X.binop rfl (Sx.ev 10 (.int .i64 t)) (Sx.ev 15 (.int .i64 p.re)) (X.remI Try.underlying3 rfl (by omega) (by omega))) (hR.step (Gr.refl _) rfl)
  ·intro ac done u W Sx hR
   exact X.val (X.w1 rfl (Sx.yl 3 8 true (by kernel_rfl) rfl rfl)) rfl (X.binop rfl (Sx.ev 16 (.int .i64 ((t : Int) % (p.re : Int)))) (X.kc (.int .i64 0) rfl) (X.eqlI Try.underlying3 rfl)) (hR.step (Gr.refl _) rfl)
  ·intro ac done u W Sx hR
   exact X.val (X.w0 rfl) rfl (X.pickT rfl (Sx.ev 8 (.bool true)) (Sx.ev 17 (.bool (((t : Int) % (p.re : Int) : Int) == 0)))) (hR.step (Gr.refl _) rfl)
  intro ac u w7 hs hd hl ho hR
  have g : Gr w4 w7 := hR.1
  replace F : Fr ac 30 [(0, .pointer (some ⟨bq, 0, none⟩)), (1, .agg #[.int .i64 t, .int .i64 x]), (3, .pointer (some ⟨w.heap.size, 0, none⟩)), (4, .int .i64 0), (18, .bool (((t : Int) % (p.re : Int) : Int) == 0))] := X.fr hs hd hl _ (by kernel_rfl)
  clear hs hd hl ho hR
  replace G := G.trans g
  replace hC := hC.gr g
  replace hq := hq.gr g
  clear g
  refine X.thenN ?_
  cases h8 : (((t : Int) % (p.re : Int) : Int) == 0) with
  | false =>
   try rw [h8] at F
   have h8p : ¬ ((t : Int) % (p.re : Int) : Int) = 0 := by simpa using h8
   refine Y.condF (F.ev 18 (.bool false)) ?_
   refine Y.skip ?_
   refine X.thenN ?_
   refine Y.seq ?_
   refine Y.lit (by kernel_rfl) ?_
   refine Y.pval F (X.w0 rfl) rfl (X.field rfl (F.ev 3 (.pointer (some ⟨w.heap.size, 0, none⟩))) (X.fld Try.underlying72 rfl (Try.siz3 _) rfl rfl)) ?_
   clear F ac
   intro ac F
   refine Y.pval F (X.w0 rfl) rfl (X.load rfl (F.ev 28 (.pointer (some ⟨w.heap.size, 1, none⟩))) (X.ld1 (Try.agg3 _) (hC.at 9 rfl))) ?_
   clear F ac
   intro ac F
   refine Y.pval F (X.w0 rfl) rfl (X.assign rfl (F.ev 29 (.int .i64 x))) ?_
   clear F ac
   intro ac F
   refine Y.nil ?_
   replace F : Fr ac 30 [(0, .pointer (some ⟨bq, 0, none⟩)), (1, .agg #[.int .i64 t, .int .i64 x]), (3, .pointer (some ⟨w.heap.size, 0, none⟩)), (4, .int .i64 x), (18, .bool false)] := F.sub _
   refine X.thenN ?_
   refine Y.ret ?_
   exact Y.ret0 (v := .int .i64 x) F (Y.rs1 F rfl (by kernel_rfl)) ⟨by unfold refV; simp [h5p, h8p], G⟩
  | true =>
   try rw [h8] at F
   have h8p : ((t : Int) % (p.re : Int) : Int) = 0 := by simpa using h8
   refine Y.condT (F.ev 18 (.bool true)) ?_
   refine Y.seq ?_
   refine Y.region F [some (.pointer (some ⟨w.heap.size, 1, none⟩)), some (.int .i64 x), some (.int .i64 ((x : Int) + 1)), some (.pointer (some ⟨bq, 0, none⟩)), some (.pointer (some ⟨bq, 0, none⟩)), some (.pointer (some ⟨bq, 0, none⟩)), some (.pointer (some ⟨bq, 3, none⟩)), some (.int .i64 p.bu), some (.int .i64 (min ((x : Int) + 1 : Int) (p.bu : Int))), some (.int .i64 (min ((x : Int) + 1 : Int) (p.bu : Int)))] [] rfl ⟨by kernel_rfl, of_decide_eq_true (by kernel_rfl), by kernel_rfl, by kernel_rfl, by kernel_rfl⟩ ⟨?_, ?_, ?_, ?_, ?_, ?_, ?_, ?_, ?_, ?_, trivial⟩ ?_
   ·intro ac done u W Sx hR
    exact X.val (X.w0 rfl) rfl (X.field rfl (Sx.ev 3 (.pointer (some ⟨w.heap.size, 0, none⟩))) (X.fld Try.underlying72 rfl (Try.siz3 _) rfl rfl)) (hR.step (Gr.refl _) rfl)
   ·intro ac done u W Sx hR
    have g : Gr w7 W := hR.1
    exact X.val (X.w0 rfl) rfl (X.load rfl (Sx.ev 19 (.pointer (some ⟨w.heap.size, 1, none⟩))) (X.ld1 (Try.agg3 _) ((hC.gr g).at 9 rfl))) (hR.step (Gr.refl _) rfl)
   ·intro ac done u W Sx hR
    exact X.val (X.w0 rfl) rfl (X.binop rfl (Sx.ev 20 (.int .i64 x)) (X.kc (.int .i64 1) rfl) (X.addI Try.underlying3 rfl (by omega) (by omega))) (hR.step (Gr.refl _) rfl)
   ·intro ac done u W Sx hR
    exact X.val (X.w0 rfl) rfl (X.move rfl (Sx.ev 0 (.pointer (some ⟨bq, 0, none⟩)))) (hR.step (Gr.refl _) rfl)
   ·intro ac done u W Sx hR
    exact X.val (X.w0 rfl) rfl (Y.nilC rfl (Sx.ev 22 (.pointer (some ⟨bq, 0, none⟩)))) (hR.step (Gr.refl _) rfl)
   ·intro ac done u W Sx hR
    exact X.val (X.w0 rfl) rfl (X.field rfl (Sx.ev 23 (.pointer (some ⟨bq, 0, none⟩))) (X.fld Try.underlying110 rfl (Try.siz31 _) rfl rfl)) (hR.step (Gr.refl _) rfl)
   ·intro ac done u W Sx hR
    exact X.val (X.w0 rfl) rfl (X.field rfl (Sx.ev 24 (.pointer (some ⟨bq, 0, none⟩))) (X.fld Try.underlying31 rfl (Try.siz3 _) rfl rfl)) (hR.step (Gr.refl _) rfl)
   ·intro ac done u W Sx hR
    have g : Gr w7 W := hR.1
    exact X.val (X.w0 rfl) rfl (X.load rfl (Sx.ev 25 (.pointer (some ⟨bq, 3, none⟩))) (X.ld1 (Try.agg3 _) ((hC.gr g).at 3 rfl))) (hR.step (Gr.refl _) rfl)
   ·intro ac done u W Sx hR
    exact X.val (X.w0 rfl) rfl (Y.min2 rfl (Sx.ev 21 (.int .i64 ((x : Int) + 1))) (Sx.ev 26 (.int .i64 p.bu))) (hR.step (Gr.refl _) rfl)
   ·intro ac done u W Sx hR
    exact X.val (X.w0 rfl) rfl (X.assign rfl (Sx.ev 27 (.int .i64 (min ((x : Int) + 1 : Int) (p.bu : Int))))) (hR.step (Gr.refl _) rfl)
   intro ac u w9 hs hd hl ho hR
   have g : Gr w7 w9 := hR.1
   replace F : Fr ac 30 [(0, .pointer (some ⟨bq, 0, none⟩)), (1, .agg #[.int .i64 t, .int .i64 x]), (3, .pointer (some ⟨w.heap.size, 0, none⟩)), (4, .int .i64 (min ((x : Int) + 1 : Int) (p.bu : Int))), (18, .bool true)] := X.fr hs hd hl _ (by kernel_rfl)
   clear hs hd hl ho hR
   replace G := G.trans g
   replace hC := hC.gr g
   replace hq := hq.gr g
   clear g
   refine X.thenN ?_
   refine Y.ret ?_
   refine X.thenR ?_
   exact Y.ret0 (v := .int .i64 (min ((x : Int) + 1 : Int) (p.bu : Int))) F (Y.rs1 F rfl (by kernel_rfl)) ⟨by unfold refV; simp [h5p, h8p], G⟩

set_option maxRecDepth 100000 in
set_option maxHeartbeats 400000 in
theorem start_any (bq bm : Nat) (gq : Int) (p : Nd) (w : World) (hq : Pq w bq gq p.aw p.za p.bu p.re p.hold p.T bm) :
  Calls Try.prog 49 #[.pointer (some ⟨bq, 0, none⟩)] w fun e w' => e = .returned (.agg #[.int .i64 0, .int .i64 p.bu]) ∧ Gr w w' := by
 have G := Gr.refl w
 have hC : RCells w (PqC bq gq p.aw p.za p.bu p.re p.hold p.T bm) := hq
 have hbq := hq.lt
 refine Y.calls 9 Try.func49 rfl rfl ?_
 intro ac F0
 have F : Fr ac 9 [(0, .pointer (some ⟨bq, 0, none⟩))] := F0.sub _
 clear F0
 refine Y.seq ?_
 refine Y.lit (by kernel_rfl) ?_
 refine Y.pval F (X.w0 rfl) rfl (Y.al rfl (Try.new72 _)) ?_
 clear F ac
 intro ac F
 have hgshV3 := G.size
 have hq4 : bq < w.heap.size := lt_cell (hC.at 0 rfl)
 have g := Gr.alloc w (.cells #[.int .i64 0, .int .i64 0] 72)
 have hb := heap_alloc_new w (.cells #[.int .i64 0, .int .i64 0] 72)
 have hbl : w.heap.size < (w.alloc (.cells #[.int .i64 0, .int .i64 0] 72)).heap.size := by simp
 generalize w.alloc (.cells #[.int .i64 0, .int .i64 0] 72) = w5 at *
 replace G := G.trans g
 replace hC := hC.gr g
 replace hq := hq.gr g
 have hV3 := ownP_2 hb
 clear g hb hbl
 refine Y.nil ?_
 replace F : Fr ac 9 [(0, .pointer (some ⟨bq, 0, none⟩)), (2, .pointer (some ⟨w.heap.size, 0, none⟩))] := F.sub _
 refine X.thenN ?_
 refine Y.seq ?_
 refine Y.lit (by kernel_rfl) ?_
 refine Y.pval F (X.w0 rfl) rfl (X.move rfl (F.ev 0 (.pointer (some ⟨bq, 0, none⟩)))) ?_
 clear F ac
 intro ac F
 refine Y.pval F (X.w0 rfl) rfl (Y.nilC rfl (F.ev 3 (.pointer (some ⟨bq, 0, none⟩)))) ?_
 clear F ac
 intro ac F
 refine Y.pval F (X.w0 rfl) rfl (X.field rfl (F.ev 4 (.pointer (some ⟨bq, 0, none⟩))) (X.fld Try.underlying110 rfl (Try.siz31 _) rfl rfl)) ?_
 clear F ac
 intro ac F
 refine Y.pval F (X.w0 rfl) rfl (X.field rfl (F.ev 5 (.pointer (some ⟨bq, 0, none⟩))) (X.fld Try.underlying31 rfl (Try.siz3 _) rfl rfl)) ?_
 clear F ac
 intro ac F
 refine Y.pval F (X.w0 rfl) rfl (X.load rfl (F.ev 6 (.pointer (some ⟨bq, 3, none⟩))) (X.ld1 (Try.agg3 _) (hC.at 3 rfl))) ?_
 clear F ac
 intro ac F
 refine Y.pval F (X.w0 rfl) rfl (Y.bd rfl (Y.bd2 (X.kc (.int .i64 0) rfl) (F.ev 7 (.int .i64 p.bu))) (Try.bd72 _ _ _)) ?_
 clear F ac
 intro ac F
 obtain ⟨w6, hrun, hS2, hon⟩ := hV3.st2 (P := Try.prog) (t := 72) (x := .int .i64 0) (y := .int .i64 p.bu) (fun W => Try.siz72 W) rfl rfl
 refine Y.punit F (X.w0 rfl) rfl (X.store rfl (F.ev 2 (.pointer (some ⟨w.heap.size, 0, none⟩))) (F.ev 8 (.agg #[.int .i64 0, .int .i64 p.bu])) hrun) ?_
 clear F ac hrun
 intro ac F
 replace G := Y.Only.up G hon (by omega)
 replace hq := hq.only hon (by show ¬ _ = _; omega)
 replace hC : RCells w6 [(⟨bq, 0, none⟩, .int .i64 gq), (⟨bq, 1, none⟩, .int .i64 p.aw), (⟨bq, 2, none⟩, .int .i64 p.za), (⟨bq, 3, none⟩, .int .i64 p.bu), (⟨bq, 4, none⟩, .int .i64 p.re), (⟨bq, 5, none⟩, .int .i64 p.hold), (⟨bq, 6, none⟩, .int .i64 p.T), (⟨bq, 7, none⟩, .map (some bm))] := (RCells.cons (hon.cell (hC.at 0 rfl) (by show ¬ bq = w.heap.size; omega)) (RCells.cons (hon.cell (hC.at 1 rfl) (by show ¬ bq = w.heap.size; omega)) (RCells.cons (hon.cell (hC.at 2 rfl) (by show ¬ bq = w.heap.size; omega)) (RCells.cons (hon.cell (hC.at 3 rfl) (by show ¬ bq = w.heap.size; omega)) (RCells.cons (hon.cell (hC.at 4 rfl) (by show ¬ bq = w.heap.size; omega)) (RCells.cons (hon.cell (hC.at 5 rfl) (by show ¬ bq = w.heap.size; omega)) (RCells.cons (hon.cell (hC.at 6 rfl) (by show ¬ bq = w.heap.size; omega)) (RCells.cons (hon.cell (hC.at 7 rfl) (by show ¬ bq = w.heap.size; omega)) (RCells.nil _)))))))))
 replace hV3 := hS2
 clear hS2 hon
 refine Y.nil ?_
 replace F : Fr ac 9 [(0, .pointer (some ⟨bq, 0, none⟩)), (2, .pointer (some ⟨w.heap.size, 0, none⟩))] := F.sub _
 refine X.thenN ?_
 refine Y.ret ?_
 exact Y.ret0 (v := .agg #[.int .i64 0, .int .i64 p.bu]) F (Y.rc1 F rfl (Try.agg72 _) (Try.siz72 _) (by kernel_rfl) hV3) ⟨rfl, G⟩

set_option maxRecDepth 100000 in
set_option maxHeartbeats 400000 in
theorem and_any (x y z u : Int) (w : World) (h1 : -100000000 ≤ x + z ∧ x + z ≤ 100000000) (h2 : -100000000 ≤ y + u ∧ y + u ≤ 100000000) :
  Calls Try.prog 62 #[.agg #[.int .i64 x, .int .i64 y], .agg #[.int .i64 z, .int .i64 u]] w fun e w' => e = .returned (.agg #[.int .i64 (x + z), .int .i64 (y + u)]) ∧ Gr w w' := by
 have G := Gr.refl w
 refine Y.calls 16 Try.func62 rfl rfl ?_
 intro ac F0
 have F : Fr ac 16 [(0, .agg #[.int .i64 x, .int .i64 y]), (1, .agg #[.int .i64 z, .int .i64 u])] := F0.sub _
 clear F0
 refine Y.seq ?_
 refine Y.lit (by kernel_rfl) ?_
 refine Y.pval F (X.w0 rfl) rfl (X.box rfl (F.ev 0 (.agg #[.int .i64 x, .int .i64 y])) X.bx) ?_
 clear F ac
 intro ac F
 have g := Gr.alloc w (.cells #[.int .i64 x, .int .i64 y] 69)
 have hb := heap_alloc_new w (.cells #[.int .i64 x, .int .i64 y] 69)
 have hbl : w.heap.size < (w.alloc (.cells #[.int .i64 x, .int .i64 y] 69)).heap.size := by simp
 have hC2 : RCells (w.alloc (.cells #[.int .i64 x, .int .i64 y] 69)) [(⟨w.heap.size, 0, none⟩, .int .i64 x), (⟨w.heap.size, 1, none⟩, .int .i64 y)] := (RCells.nil w).box (b := w.heap.size) #[.int .i64 x, .int .i64 y] 69 rfl
 generalize w.alloc (.cells #[.int .i64 x, .int .i64 y] 69) = w3 at *
 replace G := G.trans g
 have hC := hC2
 clear hC2
 clear g hb hbl
 refine Y.pval F (X.w0 rfl) rfl (X.box rfl (F.ev 1 (.agg #[.int .i64 z, .int .i64 u])) X.bx) ?_
 clear F ac
 intro ac F
 have hq4 : w.heap.size < w3.heap.size := lt_cell (hC.at 0 rfl)
 have g := Gr.alloc w3 (.cells #[.int .i64 z, .int .i64 u] 69)
 have hb := heap_alloc_new w3 (.cells #[.int .i64 z, .int .i64 u] 69)
 have hbl : w3.heap.size < (w3.alloc (.cells #[.int .i64 z, .int .i64 u] 69)).heap.size := by simp
 have hC2 : RCells (w3.alloc (.cells #[.int .i64 z, .int .i64 u] 69)) [(⟨w.heap.size, 0, none⟩, .int .i64 x), (⟨w.heap.size, 1, none⟩, .int .i64 y), (⟨w3.heap.size, 0, none⟩, .int .i64 z), (⟨w3.heap.size, 1, none⟩, .int .i64 u)] := hC.box (b := w3.heap.size) #[.int .i64 z, .int .i64 u] 69 rfl
 generalize w3.alloc (.cells #[.int .i64 z, .int .i64 u] 69) = w5 at *
 replace G := G.trans g
 replace hC := hC2
 clear hC2
 clear g hb hbl
 refine Y.pval F (X.w0 rfl) rfl (Y.al rfl (Try.new69 _)) ?_
 clear F ac
 intro ac F
 have hgshV6 := G.size
 have hq7 : w.heap.size < w5.heap.size := lt_cell (hC.at 0 rfl)
 have hq8 : w3.heap.size < w5.heap.size := lt_cell (hC.at 2 rfl)
 have g := Gr.alloc w5 (.cells #[.int .i64 0, .int .i64 0] 69)
 have hb := heap_alloc_new w5 (.cells #[.int .i64 0, .int .i64 0] 69)
 have hbl : w5.heap.size < (w5.alloc (.cells #[.int .i64 0, .int .i64 0] 69)).heap.size := by simp
 generalize w5.alloc (.cells #[.int .i64 0, .int .i64 0] 69) = w9 at *
 replace G := G.trans g
 replace hC := hC.gr g
 have hV6 := ownP_2 hb
 clear g hb hbl
 refine Y.nil ?_
 replace F : Fr ac 16 [(0, .agg #[.int .i64 x, .int .i64 y]), (1, .agg #[.int .i64 z, .int .i64 u]), (2, .pointer (some ⟨w.heap.size, 0, none⟩)), (3, .pointer (some ⟨w3.heap.size, 0, none⟩)), (4, .pointer (some ⟨w5.heap.size, 0, none⟩))] := F.sub _
 refine X.thenN ?_
 refine Y.seq ?_
 refine Y.lit (by kernel_rfl) ?_
 refine Y.pval F (X.w0 rfl) rfl (X.field rfl (F.ev 2 (.pointer (some ⟨w.heap.size, 0, none⟩))) (X.fld Try.underlying69 rfl (Try.siz3 _) rfl rfl)) ?_
 clear F ac
 intro ac F
 refine Y.pval F (X.w0 rfl) rfl (X.load rfl (F.ev 5 (.pointer (some ⟨w.heap.size, 0, none⟩))) (X.ld1 (Try.agg3 _) (hC.at 0 rfl))) ?_
 clear F ac
 intro ac F
 refine Y.pval F (X.w0 rfl) rfl (X.field rfl (F.ev 3 (.pointer (some ⟨w3.heap.size, 0, none⟩))) (X.fld Try.underlying69 rfl (Try.siz3 _) rfl rfl)) ?_
 clear F ac
 intro ac F
 refine Y.pval F (X.w0 rfl) rfl (X.load rfl (F.ev 7 (.pointer (some ⟨w3.heap.size, 0, none⟩))) (X.ld1 (Try.agg3 _) (hC.at 2 rfl))) ?_
 clear F ac
 intro ac F
 refine Y.pval F (X.w0 rfl) rfl (X.binop rfl (F.ev 6 (.int .i64 x)) (F.ev 8 (.int .i64 z)) (X.addI Try.underlying3 rfl (by omega) (by omega))) ?_
 clear F ac
 intro ac F
 refine Y.pval F (X.w0 rfl) rfl (X.field rfl (F.ev 2 (.pointer (some ⟨w.heap.size, 0, none⟩))) (X.fld Try.underlying69 rfl (Try.siz3 _) rfl rfl)) ?_
 clear F ac
 intro ac F
 refine Y.pval F (X.w0 rfl) rfl (X.load rfl (F.ev 10 (.pointer (some ⟨w.heap.size, 1, none⟩))) (X.ld1 (Try.agg3 _) (hC.at 1 rfl))) ?_
 clear F ac
 intro ac F
 refine Y.pval F (X.w0 rfl) rfl (X.field rfl (F.ev 3 (.pointer (some ⟨w3.heap.size, 0, none⟩))) (X.fld Try.underlying69 rfl (Try.siz3 _) rfl rfl)) ?_
 clear F ac
 intro ac F
 refine Y.pval F (X.w0 rfl) rfl (X.load rfl (F.ev 12 (.pointer (some ⟨w3.heap.size, 1, none⟩))) (X.ld1 (Try.agg3 _) (hC.at 3 rfl))) ?_
 clear F ac
 intro ac F
 refine Y.pval F (X.w0 rfl) rfl (X.binop rfl (F.ev 11 (.int .i64 y)) (F.ev 13 (.int .i64 u)) (X.addI Try.underlying3 rfl (by omega) (by omega))) ?_
 clear F ac
 intro ac F
 refine Y.pval F (X.w0 rfl) rfl (Y.bd rfl (Y.bd2 (F.ev 9 (.int .i64 ((x : Int) + z))) (F.ev 14 (.int .i64 ((y : Int) + u)))) (Try.bd69 _ _ _)) ?_
 clear F ac
 intro ac F
 obtain ⟨w10, hrun, hS2, hon⟩ := hV6.st2 (P := Try.prog) (t := 69) (x := .int .i64 ((x : Int) + z)) (y := .int .i64 ((y : Int) + u)) (fun W => Try.siz69 W) rfl rfl
 refine Y.punit F (X.w0 rfl) rfl (X.store rfl (F.ev 4 (.pointer (some ⟨w5.heap.size, 0, none⟩))) (F.ev 15 (.agg #[.int .i64 ((x : Int) + z), .int .i64 ((y : Int) + u)])) hrun) ?_
 clear F ac hrun
 intro ac F
 replace G := Y.Only.up G hon (by omega)
 replace hC : RCells w10 [(⟨w.heap.size, 0, none⟩, .int .i64 x), (⟨w.heap.size, 1, none⟩, .int .i64 y), (⟨w3.heap.size, 0, none⟩, .int .i64 z), (⟨w3.heap.size, 1, none⟩, .int .i64 u)] := (RCells.cons (hon.cell (hC.at 0 rfl) (by show ¬ w.heap.size = w5.heap.size; omega)) (RCells.cons (hon.cell (hC.at 1 rfl) (by show ¬ w.heap.size = w5.heap.size; omega)) (RCells.cons (hon.cell (hC.at 2 rfl) (by show ¬ w3.heap.size = w5.heap.size; omega)) (RCells.cons (hon.cell (hC.at 3 rfl) (by show ¬ w3.heap.size = w5.heap.size; omega)) (RCells.nil _)))))
 replace hV6 := hS2
 clear hS2 hon
 refine Y.nil ?_
 replace F : Fr ac 16 [(0, .agg #[.int .i64 x, .int .i64 y]), (1, .agg #[.int .i64 z, .int .i64 u]), (2, .pointer (some ⟨w.heap.size, 0, none⟩)), (3, .pointer (some ⟨w3.heap.size, 0, none⟩)), (4, .pointer (some ⟨w5.heap.size, 0, none⟩))] := F.sub _
 refine X.thenN ?_
 refine Y.ret ?_
 exact Y.ret0 (v := .agg #[.int .i64 ((x : Int) + z), .int .i64 ((y : Int) + u)]) F (Y.rc1 F rfl (Try.agg69 _) (Try.siz69 _) (by kernel_rfl) hV6) ⟨rfl, G⟩
end
section
open Go.RowKit

set_option maxRecDepth 100000 in
set_option maxHeartbeats 1000000 in
theorem wake_any (bq bm : Nat) (gq : Int) (p : Nd) (t x : Int) (w : World) (hq : Pq w bq gq p.aw p.za p.bu p.re p.hold p.T bm) (h : NdOk p) (ht : 0 ≤ t ∧ t ≤ 100000) (hx : 0 ≤ x ∧ x ≤ 100000) :
  Calls Try.prog 61 #[.pointer (some ⟨bq, 0, none⟩), .agg #[.int .i64 t, .int .i64 x]] w fun e w' => e = .returned (if refV p t x = 0 then .tuple #[.agg #[.int .i64 t, .int .i64 x], .agg #[.int .i64 0, .int .i64 0], .bool false] else .tuple #[.agg #[.int .i64 (t + 1 + ((wkN p t : Nat) : Int)), .int .i64 (wkV p t (refV p t x) (wkN p t)).1], .agg #[.int .i64 (wkV p t (refV p t x) (wkN p t)).2, .int .i64 1], .bool true]) ∧ Gr w w' := by
 have G := Gr.refl w
 have hC : RCells w (PqC bq gq p.aw p.za p.bu p.re p.hold p.T bm) := hq
 have hbq := hq.lt
 have ha0 := h.a0
 have ha1 := h.a1
 have ha2 := h.a2
 have hb0 := h.b0
 have hb1 := h.b1
 have hr0 := h.r0
 have hr1 := h.r1
 have hh0 := h.h0
 have hh1 := h.h1
 have ht0_ := h.t0
 have ht1_ := h.t1
 refine Y.calls 88 Try.func61 rfl rfl ?_
 intro ac F0
 have F : Fr ac 88 [(0, .pointer (some ⟨bq, 0, none⟩)), (1, .agg #[.int .i64 t, .int .i64 x])] := F0.sub _
 clear F0
 refine Y.seq ?_
 refine Y.lit (by kernel_rfl) ?_
 refine Y.pval F (X.w0 rfl) rfl (X.box rfl (F.ev 1 (.agg #[.int .i64 t, .int .i64 x])) X.bx) ?_
 clear F ac
 intro ac F
 have hq3 : bq < w.heap.size := lt_cell (hC.at 0 rfl)
 have g := Gr.alloc w (.cells #[.int .i64 t, .int .i64 x] 72)
 have hb := heap_alloc_new w (.cells #[.int .i64 t, .int .i64 x] 72)
 have hbl : w.heap.size < (w.alloc (.cells #[.int .i64 t, .int .i64 x] 72)).heap.size := by simp
 have hC2 : RCells (w.alloc (.cells #[.int .i64 t, .int .i64 x] 72)) [(⟨bq, 0, none⟩, .int .i64 gq), (⟨bq, 1, none⟩, .int .i64 p.aw), (⟨bq, 2, none⟩, .int .i64 p.za), (⟨bq, 3, none⟩, .int .i64 p.bu), (⟨bq, 4, none⟩, .int .i64 p.re), (⟨bq, 5, none⟩, .int .i64 p.hold), (⟨bq, 6, none⟩, .int .i64 p.T), (⟨bq, 7, none⟩, .map (some bm)), (⟨w.heap.size, 0, none⟩, .int .i64 t), (⟨w.heap.size, 1, none⟩, .int .i64 x)] := hC.box (b := w.heap.size) #[.int .i64 t, .int .i64 x] 72 rfl
 generalize w.alloc (.cells #[.int .i64 t, .int .i64 x] 72) = w4 at *
 replace G := G.trans g
 replace hC := hC2
 clear hC2
 replace hq := hq.gr g
 clear g hb hbl
 refine Y.pval F (X.w0 rfl) rfl (Y.al rfl (Try.new72 _)) ?_
 clear F ac
 intro ac F
 have hgshV5 := G.size
 have hq6 : bq < w4.heap.size := lt_cell (hC.at 0 rfl)
 have hq7 : w.heap.size < w4.heap.size := lt_cell (hC.at 8 rfl)
 have g := Gr.alloc w4 (.cells #[.int .i64 0, .int .i64 0] 72)
 have hb := heap_alloc_new w4 (.cells #[.int .i64 0, .int .i64 0] 72)
 have hbl : w4.heap.size < (w4.alloc (.cells #[.int .i64 0, .int .i64 0] 72)).heap.size := by simp
 generalize w4.alloc (.cells #[.int .i64 0, .int .i64 0] 72) = w8 at *
 replace G := G.trans g
 replace hC := hC.gr g
 replace hq := hq.gr g
 have hV5 := ownP_2 hb
 clear g hb hbl
 refine Y.pval F (X.w0 rfl) rfl (Y.al rfl (Try.new69 _)) ?_
 clear F ac
 intro ac F
 have hgshV9 := G.size
 have hq10 : w4.heap.size < w8.heap.size := hV5.lt
 have hq11 : bq < w8.heap.size := lt_cell (hC.at 0 rfl)
 have hq12 : w.heap.size < w8.heap.size := lt_cell (hC.at 8 rfl)
 have g := Gr.alloc w8 (.cells #[.int .i64 0, .int .i64 0] 69)
 have hb := heap_alloc_new w8 (.cells #[.int .i64 0, .int .i64 0] 69)
 have hbl : w8.heap.size < (w8.alloc (.cells #[.int .i64 0, .int .i64 0] 69)).heap.size := by simp
 generalize w8.alloc (.cells #[.int .i64 0, .int .i64 0] 69) = w13 at *
 replace G := G.trans g
 replace hC := hC.gr g
 replace hq := hq.gr g
 replace hV5 := hV5.gr g
 have hV9 := ownP_2 hb
 clear g hb hbl
 refine Y.pval F (X.w0 rfl) rfl (X.assign rfl (X.kc (.bool false) rfl)) ?_
 clear F ac
 intro ac F
 refine Y.nil ?_
 replace F : Fr ac 88 [(0, .pointer (some ⟨bq, 0, none⟩)), (1, .agg #[.int .i64 t, .int .i64 x]), (3, .pointer (some ⟨w.heap.size, 0, none⟩)), (4, .pointer (some ⟨w4.heap.size, 0, none⟩)), (5, .pointer (some ⟨w8.heap.size, 0, none⟩)), (6, .bool false)] := F.sub _
 refine X.thenN ?_
 refine Y.seq ?_
 refine Y.lit (by kernel_rfl) ?_
 refine Y.pval F (X.w0 rfl) rfl (X.move rfl (F.ev 0 (.pointer (some ⟨bq, 0, none⟩)))) ?_
 clear F ac
 intro ac F
 refine Y.pval F (X.w0 rfl) rfl (X.load rfl (F.ev 3 (.pointer (some ⟨w.heap.size, 0, none⟩))) (X.ldN (Try.agg72 _) (Try.siz72 _) (Y.atz (⟨w.heap.size, 0, none⟩) (Y.AtFrom.cons (hC.at 8 rfl) (Y.AtFrom.cons (hC.at 9 rfl) (Y.AtFrom.nil _ _ _)))))) ?_
 clear F ac
 intro ac F
 refine Y.pcall F (X.w0 rfl) rfl (X.enter (F := 77) rfl (X.kc (.func (.func 77) #[] #[]) rfl) (X.a2 (F.ev 9 (.pointer (some ⟨bq, 0, none⟩))) (F.ev 10 (.agg #[.int .i64 t, .int .i64 x]))) (enters_of Try.func77 (by kernel_rfl) rfl _)) (refilled_any bq bm gq p t x w13 hq h (by omega) (by omega)) ?_
 clear F ac
 rintro e w14 ⟨rfl, g⟩
 refine ⟨_, rfl, ?_⟩
 intro ac F
 replace G := G.trans g
 replace hC := hC.gr g
 replace hq := hq.gr g
 replace hV5 := hV5.gr g
 replace hV9 := hV9.gr g
 clear g
 refine Y.pval F (X.w0 rfl) rfl (X.assign rfl (F.ev 11 (.int .i64 (refV p t x)))) ?_
 clear F ac
 intro ac F
 refine Y.nil ?_
 replace F : Fr ac 88 [(0, .pointer (some ⟨bq, 0, none⟩)), (1, .agg #[.int .i64 t, .int .i64 x]), (3, .pointer (some ⟨w.heap.size, 0, none⟩)), (4, .pointer (some ⟨w4.heap.size, 0, none⟩)), (5, .pointer (some ⟨w8.heap.size, 0, none⟩)), (6, .bool false), (7, .int .i64 (refV p t x))] := F.sub _
 refine X.thenN ?_
 refine Y.seq ?_
 refine Y.seq ?_
 refine Y.lit (by kernel_rfl) ?_
 refine Y.pval F (X.w0 rfl) rfl (X.move rfl (F.ev 7 (.int .i64 (refV p t x)))) ?_
 clear F ac
 intro ac F
 refine Y.pval F (X.w0 rfl) rfl (X.binop rfl (F.ev 12 (.int .i64 (refV p t x))) (X.kc (.int .i64 0) rfl) (X.eqlI Try.underlying3 rfl)) ?_
 clear F ac
 intro ac F
 refine Y.nil ?_
 replace F : Fr ac 88 [(0, .pointer (some ⟨bq, 0, none⟩)), (1, .agg #[.int .i64 t, .int .i64 x]), (3, .pointer (some ⟨w.heap.size, 0, none⟩)), (4, .pointer (some ⟨w4.heap.size, 0, none⟩)), (5, .pointer (some ⟨w8.heap.size, 0, none⟩)), (6, .bool false), (7, .int .i64 (refV p t x)), (13, .bool ((refV p t x : Int) == 0))] := F.sub _
 refine X.thenN ?_
 cases h15 : ((refV p t x : Int) == 0) with
 | false =>
  try rw [h15] at F
  have h15p : ¬ (refV p t x : Int) = 0 := by simpa using h15
  have hwk : ¬ refV p t x = 0 := h15p
  have hrb := refV_nn h (t := t) hx.1 hx.2
  refine Y.condF (F.ev 13 (.bool false)) ?_
  refine Y.skip ?_
  refine X.thenN ?_
  refine Y.seq ?_
  refine Y.lit (by kernel_rfl) ?_
  refine Y.pval F (X.w0 rfl) rfl (X.field rfl (F.ev 3 (.pointer (some ⟨w.heap.size, 0, none⟩))) (X.fld Try.underlying72 rfl (Try.siz3 _) rfl rfl)) ?_
  clear F ac
  intro ac F
  refine Y.pval F (X.w0 rfl) rfl (X.load rfl (F.ev 16 (.pointer (some ⟨w.heap.size, 0, none⟩))) (X.ld1 (Try.agg3 _) (hC.at 8 rfl))) ?_
  clear F ac
  intro ac F
  refine Y.pval F (X.w0 rfl) rfl (X.binop rfl (F.ev 17 (.int .i64 t)) (X.kc (.int .i64 1) rfl) (X.addI Try.underlying3 rfl (by omega) (by omega))) ?_
  clear F ac
  intro ac F
  refine Y.pval F (X.w0 rfl) rfl (X.move rfl (F.ev 7 (.int .i64 (refV p t x)))) ?_
  clear F ac
  intro ac F
  refine Y.pval F (X.w0 rfl) rfl (X.binop rfl (F.ev 19 (.int .i64 (refV p t x))) (X.kc (.int .i64 1) rfl) (X.subI Try.underlying3 rfl (by omega) (by omega))) ?_
  clear F ac
  intro ac F
  refine Y.pval F (X.w0 rfl) rfl (Y.bd rfl (Y.bd2 (F.ev 18 (.int .i64 ((t : Int) + 1))) (F.ev 20 (.int .i64 ((refV p t x : Int) - 1)))) (Try.bd72 _ _ _)) ?_
  clear F ac
  intro ac F
  obtain ⟨w16, hrun, hS2, hon⟩ := hV5.st2 (P := Try.prog) (t := 72) (x := .int .i64 ((t : Int) + 1)) (y := .int .i64 ((refV p t x : Int) - 1)) (fun W => Try.siz72 W) rfl rfl
  refine Y.punit F (X.w0 rfl) rfl (X.store rfl (F.ev 4 (.pointer (some ⟨w4.heap.size, 0, none⟩))) (F.ev 21 (.agg #[.int .i64 ((t : Int) + 1), .int .i64 ((refV p t x : Int) - 1)])) hrun) ?_
  clear F ac hrun
  intro ac F
  replace G := Y.Only.up G hon (by omega)
  replace hq := hq.only hon (by show ¬ _ = _; omega)
  replace hV9 := hV9.only hon (by show ¬ _ = _; omega)
  replace hC : RCells w16 [(⟨bq, 0, none⟩, .int .i64 gq), (⟨bq, 1, none⟩, .int .i64 p.aw), (⟨bq, 2, none⟩, .int .i64 p.za), (⟨bq, 3, none⟩, .int .i64 p.bu), (⟨bq, 4, none⟩, .int .i64 p.re), (⟨bq, 5, none⟩, .int .i64 p.hold), (⟨bq, 6, none⟩, .int .i64 p.T), (⟨bq, 7, none⟩, .map (some bm)), (⟨w.heap.size, 0, none⟩, .int .i64 t), (⟨w.heap.size, 1, none⟩, .int .i64 x)] := (RCells.cons (hon.cell (hC.at 0 rfl) (by show ¬ bq = w4.heap.size; omega)) (RCells.cons (hon.cell (hC.at 1 rfl) (by show ¬ bq = w4.heap.size; omega)) (RCells.cons (hon.cell (hC.at 2 rfl) (by show ¬ bq = w4.heap.size; omega)) (RCells.cons (hon.cell (hC.at 3 rfl) (by show ¬ bq = w4.heap.size; omega)) (RCells.cons (hon.cell (hC.at 4 rfl) (by show ¬ bq = w4.heap.size; omega)) (RCells.cons (hon.cell (hC.at 5 rfl) (by show ¬ bq = w4.heap.size; omega)) (RCells.cons (hon.cell (hC.at 6 rfl) (by show ¬ bq = w4.heap.size; omega)) (RCells.cons (hon.cell (hC.at 7 rfl) (by show ¬ bq = w4.heap.size; omega)) (RCells.cons (hon.cell (hC.at 8 rfl) (by show ¬ w.heap.size = w4.heap.size; omega)) (RCells.cons (hon.cell (hC.at 9 rfl) (by show ¬ w.heap.size = w4.heap.size; omega)) (RCells.nil _)))))))))))
  replace hV5 := hS2
  clear hS2 hon
  refine Y.nil ?_
  replace F : Fr ac 88 [(0, .pointer (some ⟨bq, 0, none⟩)), (1, .agg #[.int .i64 t, .int .i64 x]), (3, .pointer (some ⟨w.heap.size, 0, none⟩)), (4, .pointer (some ⟨w4.heap.size, 0, none⟩)), (5, .pointer (some ⟨w8.heap.size, 0, none⟩)), (6, .bool false), (7, .int .i64 (refV p t x)), (13, .bool false)] := F.sub _
  refine X.thenN ?_
  refine Y.seq ?_
  refine Y.lit (by kernel_rfl) ?_
  refine Y.pval F (X.w0 rfl) rfl (X.move rfl (F.ev 0 (.pointer (some ⟨bq, 0, none⟩)))) ?_
  clear F ac
  intro ac F
  refine Y.pval F (X.w0 rfl) rfl (Y.nilC rfl (F.ev 22 (.pointer (some ⟨bq, 0, none⟩)))) ?_
  clear F ac
  intro ac F
  refine Y.pval F (X.w0 rfl) rfl (X.field rfl (F.ev 23 (.pointer (some ⟨bq, 0, none⟩))) (X.fld Try.underlying110 rfl (Try.siz31 _) rfl rfl)) ?_
  clear F ac
  intro ac F
  refine Y.pval F (X.w0 rfl) rfl (X.field rfl (F.ev 24 (.pointer (some ⟨bq, 0, none⟩))) (X.fld Try.underlying31 rfl (Try.siz3 _) rfl rfl)) ?_
  clear F ac
  intro ac F
  refine Y.pval F (X.w0 rfl) rfl (X.load rfl (F.ev 25 (.pointer (some ⟨bq, 1, none⟩))) (X.ld1 (Try.agg3 _) (hC.at 1 rfl))) ?_
  clear F ac
  intro ac F
  refine Y.pval F (X.w0 rfl) rfl (Y.bd rfl (Y.bd2 (F.ev 26 (.int .i64 p.aw)) (X.kc (.int .i64 1) rfl)) (Try.bd69 _ _ _)) ?_
  clear F ac
  intro ac F
  obtain ⟨w17, hrun, hS2, hon⟩ := hV9.st2 (P := Try.prog) (t := 69) (x := .int .i64 p.aw) (y := .int .i64 1) (fun W => Try.siz69 W) rfl rfl
  refine Y.punit F (X.w0 rfl) rfl (X.store rfl (F.ev 5 (.pointer (some ⟨w8.heap.size, 0, none⟩))) (F.ev 27 (.agg #[.int .i64 p.aw, .int .i64 1])) hrun) ?_
  clear F ac hrun
  intro ac F
  replace G := Y.Only.up G hon (by omega)
  replace hq := hq.only hon (by show ¬ _ = _; omega)
  replace hV5 := hV5.only hon (by show ¬ _ = _; omega)
  replace hC : RCells w17 [(⟨bq, 0, none⟩, .int .i64 gq), (⟨bq, 1, none⟩, .int .i64 p.aw), (⟨bq, 2, none⟩, .int .i64 p.za), (⟨bq, 3, none⟩, .int .i64 p.bu), (⟨bq, 4, none⟩, .int .i64 p.re), (⟨bq, 5, none⟩, .int .i64 p.hold), (⟨bq, 6, none⟩, .int .i64 p.T), (⟨bq, 7, none⟩, .map (some bm)), (⟨w.heap.size, 0, none⟩, .int .i64 t), (⟨w.heap.size, 1, none⟩, .int .i64 x)] := (RCells.cons (hon.cell (hC.at 0 rfl) (by show ¬ bq = w8.heap.size; omega)) (RCells.cons (hon.cell (hC.at 1 rfl) (by show ¬ bq = w8.heap.size; omega)) (RCells.cons (hon.cell (hC.at 2 rfl) (by show ¬ bq = w8.heap.size; omega)) (RCells.cons (hon.cell (hC.at 3 rfl) (by show ¬ bq = w8.heap.size; omega)) (RCells.cons (hon.cell (hC.at 4 rfl) (by show ¬ bq = w8.heap.size; omega)) (RCells.cons (hon.cell (hC.at 5 rfl) (by show ¬ bq = w8.heap.size; omega)) (RCells.cons (hon.cell (hC.at 6 rfl) (by show ¬ bq = w8.heap.size; omega)) (RCells.cons (hon.cell (hC.at 7 rfl) (by show ¬ bq = w8.heap.size; omega)) (RCells.cons (hon.cell (hC.at 8 rfl) (by show ¬ w.heap.size = w8.heap.size; omega)) (RCells.cons (hon.cell (hC.at 9 rfl) (by show ¬ w.heap.size = w8.heap.size; omega)) (RCells.nil _)))))))))))
  replace hV9 := hS2
  clear hS2 hon
  refine Y.nil ?_
  replace F : Fr ac 88 [(0, .pointer (some ⟨bq, 0, none⟩)), (1, .agg #[.int .i64 t, .int .i64 x]), (3, .pointer (some ⟨w.heap.size, 0, none⟩)), (4, .pointer (some ⟨w4.heap.size, 0, none⟩)), (5, .pointer (some ⟨w8.heap.size, 0, none⟩)), (6, .bool false), (7, .int .i64 (refV p t x)), (13, .bool false)] := F.sub _
  refine X.thenN ?_
  refine Y.seq ?_
  refine Y.seq ?_
  refine Y.lit (by kernel_rfl) ?_
  refine Y.pval F (X.w0 rfl) rfl (X.field rfl (F.ev 3 (.pointer (some ⟨w.heap.size, 0, none⟩))) (X.fld Try.underlying72 rfl (Try.siz3 _) rfl rfl)) ?_
  clear F ac
  intro ac F
  refine Y.pval F (X.w0 rfl) rfl (X.load rfl (F.ev 28 (.pointer (some ⟨w.heap.size, 0, none⟩))) (X.ld1 (Try.agg3 _) (hC.at 8 rfl))) ?_
  clear F ac
  intro ac F
  refine Y.pval F (X.w0 rfl) rfl (X.binop rfl (F.ev 29 (.int .i64 t)) (X.kc (.int .i64 1) rfl) (X.addI Try.underlying3 rfl (by omega) (by omega))) ?_
  clear F ac
  intro ac F
  refine Y.pval F (X.w0 rfl) rfl (X.assign rfl (F.ev 30 (.int .i64 ((t : Int) + 1)))) ?_
  clear F ac
  intro ac F
  refine Y.nil ?_
  replace F : Fr ac 88 [(0, .pointer (some ⟨bq, 0, none⟩)), (1, .agg #[.int .i64 t, .int .i64 x]), (3, .pointer (some ⟨w.heap.size, 0, none⟩)), (4, .pointer (some ⟨w4.heap.size, 0, none⟩)), (5, .pointer (some ⟨w8.heap.size, 0, none⟩)), (6, .bool false), (7, .int .i64 (refV p t x)), (8, .int .i64 ((t : Int) + 1)), (13, .bool false)] := F.sub _
  refine X.thenN ?_
  refine Y.block ?_
  have e0_ : (t : Int) + 1 + ((0 : Nat) : Int) = t + 1 := by omega
  refine Y.loop (fun me_ ac wr => ∃ (q : Nat), me_ = p.hold.toNat + 1 - q ∧ (q : Int) ≤ wkN p t ∧ Only (fun b => b = w4.heap.size ∨ b = w8.heap.size) w17 wr ∧ OwnP wr (w4.heap.size) 2 (VL [.int .i64 (t + 1 + (q : Nat)), .int .i64 (wkV p t (refV p t x) q).1]) ∧ OwnP wr (w8.heap.size) 2 (VL [.int .i64 (wkV p t (refV p t x) q).2, .int .i64 1]) ∧ Fr ac 88 [(0, .pointer (some ⟨bq, 0, none⟩)), (1, .agg #[.int .i64 t, .int .i64 x]), (3, .pointer (some ⟨w.heap.size, 0, none⟩)), (4, .pointer (some ⟨w4.heap.size, 0, none⟩)), (5, .pointer (some ⟨w8.heap.size, 0, none⟩)), (6, .bool false), (7, .int .i64 (refV p t x)), (8, .int .i64 ((t : Int) + 1 + (q : Nat))), (13, .bool false)]) _ ⟨0, rfl, by omega, Only.refl _ _, by rw [e0_]; exact hV5, hV9, by rw [e0_]; exact F.sub _⟩ ?_
  have hqs := hq
  have hCs := hC
  have Gs := G
  clear F hq hC G hV5 hV9 ac e0_
  intro me_ ac w18 hI_
  obtain ⟨q, rfl, hqn, hon, hV4, hV5, F⟩ := hI_
  have G : Gr w w18 := ((Gs.only (fun b => w.heap.size ≤ b)).trans (hon.mono' (fun i e => by omega))).gr (fun i hi e => by omega)
  have hq := hqs.only hon (by show ¬ (bq = w4.heap.size ∨ bq = w8.heap.size); omega)
  have hC : RCells w18 [(⟨bq, 0, none⟩, .int .i64 gq), (⟨bq, 1, none⟩, .int .i64 p.aw), (⟨bq, 2, none⟩, .int .i64 p.za), (⟨bq, 3, none⟩, .int .i64 p.bu), (⟨bq, 4, none⟩, .int .i64 p.re), (⟨bq, 5, none⟩, .int .i64 p.hold), (⟨bq, 6, none⟩, .int .i64 p.T), (⟨bq, 7, none⟩, .map (some bm)), (⟨w.heap.size, 0, none⟩, .int .i64 t), (⟨w.heap.size, 1, none⟩, .int .i64 x)] := (RCells.cons (hon.cell (hCs.at 0 rfl) (by show ¬ (bq = w4.heap.size ∨ bq = w8.heap.size); omega)) (RCells.cons (hon.cell (hCs.at 1 rfl) (by show ¬ (bq = w4.heap.size ∨ bq = w8.heap.size); omega)) (RCells.cons (hon.cell (hCs.at 2 rfl) (by show ¬ (bq = w4.heap.size ∨ bq = w8.heap.size); omega)) (RCells.cons (hon.cell (hCs.at 3 rfl) (by show ¬ (bq = w4.heap.size ∨ bq = w8.heap.size); omega)) (RCells.cons (hon.cell (hCs.at 4 rfl) (by show ¬ (bq = w4.heap.size ∨ bq = w8.heap.size); omega)) (RCells.cons (hon.cell (hCs.at 5 rfl) (by show ¬ (bq = w4.heap.size ∨ bq = w8.heap.size); omega)) (RCells.cons (hon.cell (hCs.at 6 rfl) (by show ¬ (bq = w4.heap.size ∨ bq = w8.heap.size); omega)) (RCells.cons (hon.cell (hCs.at 7 rfl) (by show ¬ (bq = w4.heap.size ∨ bq = w8.heap.size); omega)) (RCells.cons (hon.cell (hCs.at 8 rfl) (by show ¬ (w.heap.size = w4.heap.size ∨ w.heap.size = w8.heap.size); omega)) (RCells.cons (hon.cell (hCs.at 9 rfl) (by show ¬ (w.heap.size = w4.heap.size ∨ w.heap.size = w8.heap.size); omega)) (RCells.nil _)))))))))))
  have hb4 : w4.heap.size < w18.heap.size := hV4.lt
  have hb5 : w8.heap.size < w18.heap.size := hV5.lt
  have hwb := wkV_bd2 h (t := t) (a := refV p t x) (by omega) hrb.2 q
  have hnb := wkN_hold hh0 t
  have hI := hon
  clear hon
  refine Y.seq ?_
  refine Y.seq ?_
  cases h19 : decide (((t : Int) + 1 + (q : Nat) : Int) ≤ ((t : Int) + p.hold)) with
  | false =>
   try rw [h19] at F
   have h19p : ¬ (((t : Int) + 1 + (q : Nat) : Int) ≤ ((t : Int) + p.hold)) := of_decide_eq_false h19
   have hkN := wkN_eq hh0 hqn (.inl h19p)
   refine Y.region F [some (.int .i64 ((t : Int) + 1 + (q : Nat))), some (.pointer (some ⟨w.heap.size, 0, none⟩)), some (.int .i64 t), some (.pointer (some ⟨bq, 0, none⟩)), some (.pointer (some ⟨bq, 0, none⟩)), some (.pointer (some ⟨bq, 5, none⟩)), some (.int .i64 p.hold), some (.int .i64 ((t : Int) + p.hold)), some (.bool false), some (.bool false), none, none, none, none, none, none, some (.bool false)] [] rfl ⟨by kernel_rfl, of_decide_eq_true (by kernel_rfl), by kernel_rfl, by kernel_rfl, by kernel_rfl⟩ ⟨?_, ?_, ?_, ?_, ?_, ?_, ?_, ?_, ?_, ?_, ?_, ?_, ?_, ?_, ?_, ?_, ?_, trivial⟩ ?_
   ·intro ac done u W Sx hR
    exact X.val (X.w0 rfl) rfl (X.move rfl (Sx.ev 8 (.int .i64 ((t : Int) + 1 + (q : Nat))))) (hR.step (Gr.refl _) rfl)
   ·intro ac done u W Sx hR
    exact X.val (X.w0 rfl) rfl (X.field rfl (Sx.ev 3 (.pointer (some ⟨w.heap.size, 0, none⟩))) (X.fld Try.underlying72 rfl (Try.siz3 _) rfl rfl)) (hR.step (Gr.refl _) rfl)
   ·intro ac done u W Sx hR
    have g : Gr w18 W := hR.1
    exact X.val (X.w0 rfl) rfl (X.load rfl (Sx.ev 32 (.pointer (some ⟨w.heap.size, 0, none⟩))) (X.ld1 (Try.agg3 _) ((hC.gr g).at 8 rfl))) (hR.step (Gr.refl _) rfl)
   ·intro ac done u W Sx hR
    exact X.val (X.w0 rfl) rfl (X.move rfl (Sx.ev 0 (.pointer (some ⟨bq, 0, none⟩)))) (hR.step (Gr.refl _) rfl)
   ·intro ac done u W Sx hR
    exact X.val (X.w0 rfl) rfl (Y.nilC rfl (Sx.ev 34 (.pointer (some ⟨bq, 0, none⟩)))) (hR.step (Gr.refl _) rfl)
   ·intro ac done u W Sx hR
    exact X.val (X.w0 rfl) rfl (X.field rfl (Sx.ev 35 (.pointer (some ⟨bq, 0, none⟩))) (X.fld Try.underlying110 rfl (Try.siz3 _) rfl rfl)) (hR.step (Gr.refl _) rfl)
   ·intro ac done u W Sx hR
    have g : Gr w18 W := hR.1
    exact X.val (X.w0 rfl) rfl (X.load rfl (Sx.ev 36 (.pointer (some ⟨bq, 5, none⟩))) (X.ld1 (Try.agg3 _) ((hC.gr g).at 5 rfl))) (hR.step (Gr.refl _) rfl)
   ·intro ac done u W Sx hR
    exact X.val (X.w0 rfl) rfl (X.binop rfl (Sx.ev 33 (.int .i64 t)) (Sx.ev 37 (.int .i64 p.hold)) (X.addI Try.underlying3 rfl (by omega) (by omega))) (hR.step (Gr.refl _) rfl)
   ·intro ac done u W Sx hR
    exact X.val (X.w0 rfl) rfl (X.binop rfl (Sx.ev 31 (.int .i64 ((t : Int) + 1 + (q : Nat)))) (Sx.ev 38 (.int .i64 ((t : Int) + p.hold))) (X.leqI Try.underlying3 h19)) (hR.step (Gr.refl _) rfl)
   ·intro ac done u W Sx hR
    exact X.val (X.w0 rfl) rfl (X.move rfl (Sx.ev 39 (.bool false))) (hR.step (Gr.refl _) rfl)
   ·intro ac done u W Sx hR
    exact X.skip (X.w2 rfl (Sx.yl 9 40 false (by kernel_rfl) rfl rfl) rfl) rfl (hR.skip rfl)
   ·intro ac done u W Sx hR
    exact X.skip (X.w2 rfl (Sx.yl 9 40 false (by kernel_rfl) rfl rfl) rfl) rfl (hR.skip rfl)
   ·intro ac done u W Sx hR
    exact X.skip (X.w2 rfl (Sx.yl 9 40 false (by kernel_rfl) rfl rfl) rfl) rfl (hR.skip rfl)
   ·intro ac done u W Sx hR
    exact X.skip (X.w2 rfl (Sx.yl 9 40 false (by kernel_rfl) rfl rfl) rfl) rfl (hR.skip rfl)
   ·intro ac done u W Sx hR
    exact X.skip (X.w2 rfl (Sx.yl 9 40 false (by kernel_rfl) rfl rfl) rfl) rfl (hR.skip rfl)
   ·intro ac done u W Sx hR
    exact X.skip (X.w2 rfl (Sx.yl 9 40 false (by kernel_rfl) rfl rfl) rfl) rfl (hR.skip rfl)
   ·intro ac done u W Sx hR
    exact X.val (X.w0 rfl) rfl (X.pickF rfl (Sx.ev 40 (.bool false)) (X.kc (.bool false) rfl)) (hR.step (Gr.refl _) rfl)
   intro ac u w20 hs hd hl ho hR
   have g : Gr w18 w20 := hR.1
   replace F : Fr ac 88 [(0, .pointer (some ⟨bq, 0, none⟩)), (1, .agg #[.int .i64 t, .int .i64 x]), (3, .pointer (some ⟨w.heap.size, 0, none⟩)), (4, .pointer (some ⟨w4.heap.size, 0, none⟩)), (5, .pointer (some ⟨w8.heap.size, 0, none⟩)), (6, .bool false), (7, .int .i64 (refV p t x)), (8, .int .i64 ((t : Int) + 1 + (q : Nat))), (13, .bool false), (47, .bool false)] := X.fr hs hd hl _ (by kernel_rfl)
   clear hs hd hl ho hR
   replace G := G.trans g
   replace hC := hC.gr g
   replace hI := hI.thenGr g
   replace hq := hq.gr g
   replace hV4 := hV4.gr g
   replace hV5 := hV5.gr g
   clear g
   refine X.thenN ?_
   refine Y.condF (F.ev 47 (.bool false)) ?_
   refine Y.exit ?_
   refine X.thenX ?_
   refine X.thenX ?_
   refine X.blockX ?_
   refine X.thenN ?_
   refine Y.seq ?_
   replace hC : RCells w20 [(⟨bq, 0, none⟩, .int .i64 gq), (⟨bq, 1, none⟩, .int .i64 p.aw), (⟨bq, 2, none⟩, .int .i64 p.za), (⟨bq, 3, none⟩, .int .i64 p.bu), (⟨bq, 4, none⟩, .int .i64 p.re), (⟨bq, 5, none⟩, .int .i64 p.hold), (⟨bq, 6, none⟩, .int .i64 p.T), (⟨bq, 7, none⟩, .map (some bm)), (⟨w.heap.size, 0, none⟩, .int .i64 t), (⟨w.heap.size, 1, none⟩, .int .i64 x), (⟨w4.heap.size, 0, none⟩, .int .i64 (t + 1 + (q : Nat)))] := hC.append ((RCells.cons (hV4.cell (k := 0) (by decide)) (RCells.nil _)))
   replace hC : RCells w20 [(⟨bq, 0, none⟩, .int .i64 gq), (⟨bq, 1, none⟩, .int .i64 p.aw), (⟨bq, 2, none⟩, .int .i64 p.za), (⟨bq, 3, none⟩, .int .i64 p.bu), (⟨bq, 4, none⟩, .int .i64 p.re), (⟨bq, 5, none⟩, .int .i64 p.hold), (⟨bq, 6, none⟩, .int .i64 p.T), (⟨bq, 7, none⟩, .map (some bm)), (⟨w.heap.size, 0, none⟩, .int .i64 t), (⟨w.heap.size, 1, none⟩, .int .i64 x), (⟨w4.heap.size, 0, none⟩, .int .i64 (t + 1 + (q : Nat))), (⟨w4.heap.size, 1, none⟩, .int .i64 ((wkV p t (refV p t x) q).1))] := hC.append ((RCells.cons (hV4.cell (k := 1) (by decide)) (RCells.nil _)))
   replace hC : RCells w20 [(⟨bq, 0, none⟩, .int .i64 gq), (⟨bq, 1, none⟩, .int .i64 p.aw), (⟨bq, 2, none⟩, .int .i64 p.za), (⟨bq, 3, none⟩, .int .i64 p.bu), (⟨bq, 4, none⟩, .int .i64 p.re), (⟨bq, 5, none⟩, .int .i64 p.hold), (⟨bq, 6, none⟩, .int .i64 p.T), (⟨bq, 7, none⟩, .map (some bm)), (⟨w.heap.size, 0, none⟩, .int .i64 t), (⟨w.heap.size, 1, none⟩, .int .i64 x), (⟨w4.heap.size, 0, none⟩, .int .i64 (t + 1 + (q : Nat))), (⟨w4.heap.size, 1, none⟩, .int .i64 ((wkV p t (refV p t x) q).1)), (⟨w8.heap.size, 0, none⟩, .int .i64 ((wkV p t (refV p t x) q).2))] := hC.append ((RCells.cons (hV5.cell (k := 0) (by decide)) (RCells.nil _)))
   replace hC : RCells w20 [(⟨bq, 0, none⟩, .int .i64 gq), (⟨bq, 1, none⟩, .int .i64 p.aw), (⟨bq, 2, none⟩, .int .i64 p.za), (⟨bq, 3, none⟩, .int .i64 p.bu), (⟨bq, 4, none⟩, .int .i64 p.re), (⟨bq, 5, none⟩, .int .i64 p.hold), (⟨bq, 6, none⟩, .int .i64 p.T), (⟨bq, 7, none⟩, .map (some bm)), (⟨w.heap.size, 0, none⟩, .int .i64 t), (⟨w.heap.size, 1, none⟩, .int .i64 x), (⟨w4.heap.size, 0, none⟩, .int .i64 (t + 1 + (q : Nat))), (⟨w4.heap.size, 1, none⟩, .int .i64 ((wkV p t (refV p t x) q).1)), (⟨w8.heap.size, 0, none⟩, .int .i64 ((wkV p t (refV p t x) q).2)), (⟨w8.heap.size, 1, none⟩, .int .i64 1)] := hC.append ((RCells.cons (hV5.cell (k := 1) (by decide)) (RCells.nil _)))
   refine region_xi F [some (.agg #[.int .i64 (t + 1 + (q : Nat)), .int .i64 ((wkV p t (refV p t x) q).1)]), some (.agg #[.int .i64 ((wkV p t (refV p t x) q).2), .int .i64 1]), none, none, some (.bool true)] (RT2 w20 (w4.heap.size) 2 (w8.heap.size) 3 (VL [.int .i64 (t + 1 + (q : Nat)), .int .i64 ((wkV p t (refV p t x) q).1)]) (VL [.int .i64 (t + 1 + (q : Nat)), .int .i64 ((wkV p t (refV p t x) q).1)]) (VL [.int .i64 ((wkV p t (refV p t x) q).2), .int .i64 1]) (VL [.int .i64 ((wkV p t (refV p t x) q).2), .int .i64 1])) rfl ⟨by kernel_rfl, of_decide_eq_true (by kernel_rfl), by kernel_rfl, by kernel_rfl, by kernel_rfl⟩ (fun _ => ⟨RT2.start (Gr.refl _) hV4 hV5, RT2.start (Gr.drew _) hV4 hV5⟩) ⟨?_, ?_, ?_, ?_, ?_, trivial⟩ ?_
   ·intro ac done u W Sx hR
    exact X.val (X.w0 rfl) rfl (X.load rfl (Sx.ev 4 (.pointer (some ⟨w4.heap.size, 0, none⟩))) (X.ldN (Try.agg72 _) (Try.siz72 _) (Y.atz (⟨w4.heap.size, 0, none⟩) (Y.AtFrom.cons ((hR.p1 (Sx.no 2 (by kernel_rfl))).cell (k := 0) (by decide)) (Y.AtFrom.cons ((hR.p1 (Sx.no 2 (by kernel_rfl))).cell (k := 1) (by decide)) (Y.AtFrom.nil _ _ _)))))) (hR.quiet (by decide))
   ·intro ac done u W Sx hR
    exact X.val (X.w0 rfl) rfl (X.load rfl (Sx.ev 5 (.pointer (some ⟨w8.heap.size, 0, none⟩))) (X.ldN (Try.agg69 _) (Try.siz69 _) (Y.atz (⟨w8.heap.size, 0, none⟩) (Y.AtFrom.cons ((hR.p2 (Sx.no 3 (by kernel_rfl))).cell (k := 0) (by decide)) (Y.AtFrom.cons ((hR.p2 (Sx.no 3 (by kernel_rfl))).cell (k := 1) (by decide)) (Y.AtFrom.nil _ _ _)))))) (hR.quiet (by decide))
   ·intro ac done u W Sx hR
    obtain ⟨W2, hrun, hS2, hon⟩ := (hR.p1 Sx.nd).st2 (P := Try.prog) (t := 72) (x := .int .i64 (t + 1 + (q : Nat))) (y := .int .i64 ((wkV p t (refV p t x) q).1)) (fun W => Try.siz72 W) rfl rfl
    exact X.unit (X.w0 rfl) rfl (X.store rfl (Sx.ev 4 (.pointer (some ⟨w4.heap.size, 0, none⟩))) (Sx.ev 86 (.agg #[.int .i64 (t + 1 + (q : Nat)), .int .i64 ((wkV p t (refV p t x) q).1)])) hrun) (hR.st1 (by decide) (by omega) hS2 hon)
   ·intro ac done u W Sx hR
    obtain ⟨W2, hrun, hS2, hon⟩ := (hR.p2 Sx.nd).st2 (P := Try.prog) (t := 69) (x := .int .i64 ((wkV p t (refV p t x) q).2)) (y := .int .i64 1) (fun W => Try.siz69 W) rfl rfl
    exact X.unit (X.w0 rfl) rfl (X.store rfl (Sx.ev 5 (.pointer (some ⟨w8.heap.size, 0, none⟩))) (Sx.ev 87 (.agg #[.int .i64 ((wkV p t (refV p t x) q).2), .int .i64 1])) hrun) (hR.st2 (by decide) (by omega) hS2 hon)
   ·intro ac done u W Sx hR
    exact X.val (X.w0 rfl) rfl (X.assign rfl (X.kc (.bool true) rfl)) (hR.quiet (by decide))
   rintro ac u w21 hs hd hl_ ho hR
   replace F : Fr ac 88 [(0, .pointer (some ⟨bq, 0, none⟩)), (1, .agg #[.int .i64 t, .int .i64 x]), (3, .pointer (some ⟨w.heap.size, 0, none⟩)), (4, .pointer (some ⟨w4.heap.size, 0, none⟩)), (5, .pointer (some ⟨w8.heap.size, 0, none⟩)), (6, .bool true), (7, .int .i64 (refV p t x)), (8, .int .i64 ((t : Int) + 1 + (q : Nat))), (13, .bool false), (47, .bool false)] := X.fr hs hd hl_ _ (by kernel_rfl)
   have hon := hR.o
   replace hV4 := hR.q1 rfl
   replace hV5 := hR.q2 rfl
   replace G := ((G.only (fun b => w.heap.size ≤ b)).trans (hon.mono' (fun i e => by omega))).gr (fun i hi e => by omega)
   replace hq := hq.only hon (by show ¬ (bq = w4.heap.size ∨ bq = w8.heap.size); omega)
   replace hC : RCells w21 [(⟨bq, 0, none⟩, .int .i64 gq), (⟨bq, 1, none⟩, .int .i64 p.aw), (⟨bq, 2, none⟩, .int .i64 p.za), (⟨bq, 3, none⟩, .int .i64 p.bu), (⟨bq, 4, none⟩, .int .i64 p.re), (⟨bq, 5, none⟩, .int .i64 p.hold), (⟨bq, 6, none⟩, .int .i64 p.T), (⟨bq, 7, none⟩, .map (some bm)), (⟨w.heap.size, 0, none⟩, .int .i64 t), (⟨w.heap.size, 1, none⟩, .int .i64 x)] := (RCells.cons (hon.cell (hC.at 0 rfl) (by show ¬ (bq = w4.heap.size ∨ bq = w8.heap.size); omega)) (RCells.cons (hon.cell (hC.at 1 rfl) (by show ¬ (bq = w4.heap.size ∨ bq = w8.heap.size); omega)) (RCells.cons (hon.cell (hC.at 2 rfl) (by show ¬ (bq = w4.heap.size ∨ bq = w8.heap.size); omega)) (RCells.cons (hon.cell (hC.at 3 rfl) (by show ¬ (bq = w4.heap.size ∨ bq = w8.heap.size); omega)) (RCells.cons (hon.cell (hC.at 4 rfl) (by show ¬ (bq = w4.heap.size ∨ bq = w8.heap.size); omega)) (RCells.cons (hon.cell (hC.at 5 rfl) (by show ¬ (bq = w4.heap.size ∨ bq = w8.heap.size); omega)) (RCells.cons (hon.cell (hC.at 6 rfl) (by show ¬ (bq = w4.heap.size ∨ bq = w8.heap.size); omega)) (RCells.cons (hon.cell (hC.at 7 rfl) (by show ¬ (bq = w4.heap.size ∨ bq = w8.heap.size); omega)) (RCells.cons (hon.cell (hC.at 8 rfl) (by show ¬ (w.heap.size = w4.heap.size ∨ w.heap.size = w8.heap.size); omega)) (RCells.cons (hon.cell (hC.at 9 rfl) (by show ¬ (w.heap.size = w4.heap.size ∨ w.heap.size = w8.heap.size); omega)) (RCells.nil _)))))))))))
   replace hI := hI.trans hon
   clear hs hd hl_ ho hR hon
   refine X.thenN ?_
   refine Y.ret ?_
   exact Y.ret0 (v := .tuple #[.agg #[.int .i64 (t + 1 + (q : Nat)), .int .i64 ((wkV p t (refV p t x) q).1)], .agg #[.int .i64 ((wkV p t (refV p t x) q).2), .int .i64 1], .bool true]) F (Y.rcc3 F rfl (Try.agg72 _) (Try.siz72 _) (Try.agg69 _) (Try.siz69 _) (by kernel_rfl) (by kernel_rfl) (by kernel_rfl) hV4 hV5) ⟨by rw [if_neg hwk, hkN], G⟩
  | true =>
   try rw [h19] at F
   have h19p : (((t : Int) + 1 + (q : Nat) : Int) ≤ ((t : Int) + p.hold)) := of_decide_eq_true h19
   refine Y.region F [some (.int .i64 ((t : Int) + 1 + (q : Nat))), some (.pointer (some ⟨w.heap.size, 0, none⟩)), some (.int .i64 t), some (.pointer (some ⟨bq, 0, none⟩)), some (.pointer (some ⟨bq, 0, none⟩)), some (.pointer (some ⟨bq, 5, none⟩)), some (.int .i64 p.hold), some (.int .i64 ((t : Int) + p.hold)), some (.bool true), some (.bool true), some (.int .i64 ((t : Int) + 1 + (q : Nat))), some (.pointer (some ⟨bq, 0, none⟩)), some (.pointer (some ⟨bq, 0, none⟩)), some (.pointer (some ⟨bq, 6, none⟩)), some (.int .i64 p.T), some (.bool (decide (((t : Int) + 1 + (q : Nat) : Int) < p.T))), some (.bool (decide (((t : Int) + 1 + (q : Nat) : Int) < p.T)))] [] rfl ⟨by kernel_rfl, of_decide_eq_true (by kernel_rfl), by kernel_rfl, by kernel_rfl, by kernel_rfl⟩ ⟨?_, ?_, ?_, ?_, ?_, ?_, ?_, ?_, ?_, ?_, ?_, ?_, ?_, ?_, ?_, ?_, ?_, trivial⟩ ?_
   ·intro ac done u W Sx hR
    exact X.val (X.w0 rfl) rfl (X.move rfl (Sx.ev 8 (.int .i64 ((t : Int) + 1 + (q : Nat))))) (hR.step (Gr.refl _) rfl)
   ·intro ac done u W Sx hR
    exact X.val (X.w0 rfl) rfl (X.field rfl (Sx.ev 3 (.pointer (some ⟨w.heap.size, 0, none⟩))) (X.fld Try.underlying72 rfl (Try.siz3 _) rfl rfl)) (hR.step (Gr.refl _) rfl)
   ·intro ac done u W Sx hR
    have g : Gr w18 W := hR.1
    exact X.val (X.w0 rfl) rfl (X.load rfl (Sx.ev 32 (.pointer (some ⟨w.heap.size, 0, none⟩))) (X.ld1 (Try.agg3 _) ((hC.gr g).at 8 rfl))) (hR.step (Gr.refl _) rfl)
   ·intro ac done u W Sx hR
    exact X.val (X.w0 rfl) rfl (X.move rfl (Sx.ev 0 (.pointer (some ⟨bq, 0, none⟩)))) (hR.step (Gr.refl _) rfl)
   ·intro ac done u W Sx hR
    exact X.val (X.w0 rfl) rfl (Y.nilC rfl (Sx.ev 34 (.pointer (some ⟨bq, 0, none⟩)))) (hR.step (Gr.refl _) rfl)
   ·intro ac done u W Sx hR
    exact X.val (X.w0 rfl) rfl (X.field rfl (Sx.ev 35 (.pointer (some ⟨bq, 0, none⟩))) (X.fld Try.underlying110 rfl (Try.siz3 _) rfl rfl)) (hR.step (Gr.refl _) rfl)
   ·intro ac done u W Sx hR
    have g : Gr w18 W := hR.1
    exact X.val (X.w0 rfl) rfl (X.load rfl (Sx.ev 36 (.pointer (some ⟨bq, 5, none⟩))) (X.ld1 (Try.agg3 _) ((hC.gr g).at 5 rfl))) (hR.step (Gr.refl _) rfl)
   ·intro ac done u W Sx hR
    exact X.val (X.w0 rfl) rfl (X.binop rfl (Sx.ev 33 (.int .i64 t)) (Sx.ev 37 (.int .i64 p.hold)) (X.addI Try.underlying3 rfl (by omega) (by omega))) (hR.step (Gr.refl _) rfl)
   ·intro ac done u W Sx hR
    exact X.val (X.w0 rfl) rfl (X.binop rfl (Sx.ev 31 (.int .i64 ((t : Int) + 1 + (q : Nat)))) (Sx.ev 38 (.int .i64 ((t : Int) + p.hold))) (X.leqI Try.underlying3 h19)) (hR.step (Gr.refl _) rfl)
   ·intro ac done u W Sx hR
    exact X.val (X.w0 rfl) rfl (X.move rfl (Sx.ev 39 (.bool true))) (hR.step (Gr.refl _) rfl)
   ·intro ac done u W Sx hR
    exact X.val (X.w1 rfl (Sx.yl 9 40 true (by kernel_rfl) rfl rfl)) rfl (X.move rfl (Sx.ev 8 (.int .i64 ((t : Int) + 1 + (q : Nat))))) (hR.step (Gr.refl _) rfl)
   ·intro ac done u W Sx hR
    exact X.val (X.w1 rfl (Sx.yl 9 40 true (by kernel_rfl) rfl rfl)) rfl (X.move rfl (Sx.ev 0 (.pointer (some ⟨bq, 0, none⟩)))) (hR.step (Gr.refl _) rfl)
   ·intro ac done u W Sx hR
    exact X.val (X.w1 rfl (Sx.yl 9 40 true (by kernel_rfl) rfl rfl)) rfl (Y.nilC rfl (Sx.ev 42 (.pointer (some ⟨bq, 0, none⟩)))) (hR.step (Gr.refl _) rfl)
   ·intro ac done u W Sx hR
    exact X.val (X.w1 rfl (Sx.yl 9 40 true (by kernel_rfl) rfl rfl)) rfl (X.field rfl (Sx.ev 43 (.pointer (some ⟨bq, 0, none⟩))) (X.fld Try.underlying110 rfl (Try.siz3 _) rfl rfl)) (hR.step (Gr.refl _) rfl)
   ·intro ac done u W Sx hR
    have g : Gr w18 W := hR.1
    exact X.val (X.w1 rfl (Sx.yl 9 40 true (by kernel_rfl) rfl rfl)) rfl (X.load rfl (Sx.ev 44 (.pointer (some ⟨bq, 6, none⟩))) (X.ld1 (Try.agg3 _) ((hC.gr g).at 6 rfl))) (hR.step (Gr.refl _) rfl)
   ·intro ac done u W Sx hR
    exact X.val (X.w1 rfl (Sx.yl 9 40 true (by kernel_rfl) rfl rfl)) rfl (X.binop rfl (Sx.ev 41 (.int .i64 ((t : Int) + 1 + (q : Nat)))) (Sx.ev 45 (.int .i64 p.T)) (X.lssI Try.underlying3 rfl)) (hR.step (Gr.refl _) rfl)
   ·intro ac done u W Sx hR
    exact X.val (X.w0 rfl) rfl (X.pickT rfl (Sx.ev 40 (.bool true)) (Sx.ev 46 (.bool (decide (((t : Int) + 1 + (q : Nat) : Int) < p.T))))) (hR.step (Gr.refl _) rfl)
   intro ac u w22 hs hd hl ho hR
   have g : Gr w18 w22 := hR.1
   replace F : Fr ac 88 [(0, .pointer (some ⟨bq, 0, none⟩)), (1, .agg #[.int .i64 t, .int .i64 x]), (3, .pointer (some ⟨w.heap.size, 0, none⟩)), (4, .pointer (some ⟨w4.heap.size, 0, none⟩)), (5, .pointer (some ⟨w8.heap.size, 0, none⟩)), (6, .bool false), (7, .int .i64 (refV p t x)), (8, .int .i64 ((t : Int) + 1 + (q : Nat))), (13, .bool false), (47, .bool (decide (((t : Int) + 1 + (q : Nat) : Int) < p.T)))] := X.fr hs hd hl _ (by kernel_rfl)
   clear hs hd hl ho hR
   replace G := G.trans g
   replace hC := hC.gr g
   replace hI := hI.thenGr g
   replace hq := hq.gr g
   replace hV4 := hV4.gr g
   replace hV5 := hV5.gr g
   clear g
   refine X.thenN ?_
   cases h23 : decide (((t : Int) + 1 + (q : Nat) : Int) < p.T) with
   | false =>
    try rw [h23] at F
    have h23p : ¬ (((t : Int) + 1 + (q : Nat) : Int) < p.T) := of_decide_eq_false h23
    have hkN := wkN_eq hh0 hqn (.inr h23p)
    refine Y.condF (F.ev 47 (.bool false)) ?_
    refine Y.exit ?_
    refine X.thenX ?_
    refine X.thenX ?_
    refine X.blockX ?_
    refine X.thenN ?_
    refine Y.seq ?_
    replace hC : RCells w22 [(⟨bq, 0, none⟩, .int .i64 gq), (⟨bq, 1, none⟩, .int .i64 p.aw), (⟨bq, 2, none⟩, .int .i64 p.za), (⟨bq, 3, none⟩, .int .i64 p.bu), (⟨bq, 4, none⟩, .int .i64 p.re), (⟨bq, 5, none⟩, .int .i64 p.hold), (⟨bq, 6, none⟩, .int .i64 p.T), (⟨bq, 7, none⟩, .map (some bm)), (⟨w.heap.size, 0, none⟩, .int .i64 t), (⟨w.heap.size, 1, none⟩, .int .i64 x), (⟨w4.heap.size, 0, none⟩, .int .i64 (t + 1 + (q : Nat)))] := hC.append ((RCells.cons (hV4.cell (k := 0) (by decide)) (RCells.nil _)))
    replace hC : RCells w22 [(⟨bq, 0, none⟩, .int .i64 gq), (⟨bq, 1, none⟩, .int .i64 p.aw), (⟨bq, 2, none⟩, .int .i64 p.za), (⟨bq, 3, none⟩, .int .i64 p.bu), (⟨bq, 4, none⟩, .int .i64 p.re), (⟨bq, 5, none⟩, .int .i64 p.hold), (⟨bq, 6, none⟩, .int .i64 p.T), (⟨bq, 7, none⟩, .map (some bm)), (⟨w.heap.size, 0, none⟩, .int .i64 t), (⟨w.heap.size, 1, none⟩, .int .i64 x), (⟨w4.heap.size, 0, none⟩, .int .i64 (t + 1 + (q : Nat))), (⟨w4.heap.size, 1, none⟩, .int .i64 ((wkV p t (refV p t x) q).1))] := hC.append ((RCells.cons (hV4.cell (k := 1) (by decide)) (RCells.nil _)))
    replace hC : RCells w22 [(⟨bq, 0, none⟩, .int .i64 gq), (⟨bq, 1, none⟩, .int .i64 p.aw), (⟨bq, 2, none⟩, .int .i64 p.za), (⟨bq, 3, none⟩, .int .i64 p.bu), (⟨bq, 4, none⟩, .int .i64 p.re), (⟨bq, 5, none⟩, .int .i64 p.hold), (⟨bq, 6, none⟩, .int .i64 p.T), (⟨bq, 7, none⟩, .map (some bm)), (⟨w.heap.size, 0, none⟩, .int .i64 t), (⟨w.heap.size, 1, none⟩, .int .i64 x), (⟨w4.heap.size, 0, none⟩, .int .i64 (t + 1 + (q : Nat))), (⟨w4.heap.size, 1, none⟩, .int .i64 ((wkV p t (refV p t x) q).1)), (⟨w8.heap.size, 0, none⟩, .int .i64 ((wkV p t (refV p t x) q).2))] := hC.append ((RCells.cons (hV5.cell (k := 0) (by decide)) (RCells.nil _)))
    replace hC : RCells w22 [(⟨bq, 0, none⟩, .int .i64 gq), (⟨bq, 1, none⟩, .int .i64 p.aw), (⟨bq, 2, none⟩, .int .i64 p.za), (⟨bq, 3, none⟩, .int .i64 p.bu), (⟨bq, 4, none⟩, .int .i64 p.re), (⟨bq, 5, none⟩, .int .i64 p.hold), (⟨bq, 6, none⟩, .int .i64 p.T), (⟨bq, 7, none⟩, .map (some bm)), (⟨w.heap.size, 0, none⟩, .int .i64 t), (⟨w.heap.size, 1, none⟩, .int .i64 x), (⟨w4.heap.size, 0, none⟩, .int .i64 (t + 1 + (q : Nat))), (⟨w4.heap.size, 1, none⟩, .int .i64 ((wkV p t (refV p t x) q).1)), (⟨w8.heap.size, 0, none⟩, .int .i64 ((wkV p t (refV p t x) q).2)), (⟨w8.heap.size, 1, none⟩, .int .i64 1)] := hC.append ((RCells.cons (hV5.cell (k := 1) (by decide)) (RCells.nil _)))
    refine region_xi F [some (.agg #[.int .i64 (t + 1 + (q : Nat)), .int .i64 ((wkV p t (refV p t x) q).1)]), some (.agg #[.int .i64 ((wkV p t (refV p t x) q).2), .int .i64 1]), none, none, some (.bool true)] (RT2 w22 (w4.heap.size) 2 (w8.heap.size) 3 (VL [.int .i64 (t + 1 + (q : Nat)), .int .i64 ((wkV p t (refV p t x) q).1)]) (VL [.int .i64 (t + 1 + (q : Nat)), .int .i64 ((wkV p t (refV p t x) q).1)]) (VL [.int .i64 ((wkV p t (refV p t x) q).2), .int .i64 1]) (VL [.int .i64 ((wkV p t (refV p t x) q).2), .int .i64 1])) rfl ⟨by kernel_rfl, of_decide_eq_true (by kernel_rfl), by kernel_rfl, by kernel_rfl, by kernel_rfl⟩ (fun _ => ⟨RT2.start (Gr.refl _) hV4 hV5, RT2.start (Gr.drew _) hV4 hV5⟩) ⟨?_, ?_, ?_, ?_, ?_, trivial⟩ ?_
    ·intro ac done u W Sx hR
     exact X.val (X.w0 rfl) rfl (X.load rfl (Sx.ev 4 (.pointer (some ⟨w4.heap.size, 0, none⟩))) (X.ldN (Try.agg72 _) (Try.siz72 _) (Y.atz (⟨w4.heap.size, 0, none⟩) (Y.AtFrom.cons ((hR.p1 (Sx.no 2 (by kernel_rfl))).cell (k := 0) (by decide)) (Y.AtFrom.cons ((hR.p1 (Sx.no 2 (by kernel_rfl))).cell (k := 1) (by decide)) (Y.AtFrom.nil _ _ _)))))) (hR.quiet (by decide))
    ·intro ac done u W Sx hR
     exact X.val (X.w0 rfl) rfl (X.load rfl (Sx.ev 5 (.pointer (some ⟨w8.heap.size, 0, none⟩))) (X.ldN (Try.agg69 _) (Try.siz69 _) (Y.atz (⟨w8.heap.size, 0, none⟩) (Y.AtFrom.cons ((hR.p2 (Sx.no 3 (by kernel_rfl))).cell (k := 0) (by decide)) (Y.AtFrom.cons ((hR.p2 (Sx.no 3 (by kernel_rfl))).cell (k := 1) (by decide)) (Y.AtFrom.nil _ _ _)))))) (hR.quiet (by decide))
    ·intro ac done u W Sx hR
     obtain ⟨W2, hrun, hS2, hon⟩ := (hR.p1 Sx.nd).st2 (P := Try.prog) (t := 72) (x := .int .i64 (t + 1 + (q : Nat))) (y := .int .i64 ((wkV p t (refV p t x) q).1)) (fun W => Try.siz72 W) rfl rfl
     exact X.unit (X.w0 rfl) rfl (X.store rfl (Sx.ev 4 (.pointer (some ⟨w4.heap.size, 0, none⟩))) (Sx.ev 86 (.agg #[.int .i64 (t + 1 + (q : Nat)), .int .i64 ((wkV p t (refV p t x) q).1)])) hrun) (hR.st1 (by decide) (by omega) hS2 hon)
    ·intro ac done u W Sx hR
     obtain ⟨W2, hrun, hS2, hon⟩ := (hR.p2 Sx.nd).st2 (P := Try.prog) (t := 69) (x := .int .i64 ((wkV p t (refV p t x) q).2)) (y := .int .i64 1) (fun W => Try.siz69 W) rfl rfl
     exact X.unit (X.w0 rfl) rfl (X.store rfl (Sx.ev 5 (.pointer (some ⟨w8.heap.size, 0, none⟩))) (Sx.ev 87 (.agg #[.int .i64 ((wkV p t (refV p t x) q).2), .int .i64 1])) hrun) (hR.st2 (by decide) (by omega) hS2 hon)
    ·intro ac done u W Sx hR
     exact X.val (X.w0 rfl) rfl (X.assign rfl (X.kc (.bool true) rfl)) (hR.quiet (by decide))
    rintro ac u w24 hs hd hl_ ho hR
    replace F : Fr ac 88 [(0, .pointer (some ⟨bq, 0, none⟩)), (1, .agg #[.int .i64 t, .int .i64 x]), (3, .pointer (some ⟨w.heap.size, 0, none⟩)), (4, .pointer (some ⟨w4.heap.size, 0, none⟩)), (5, .pointer (some ⟨w8.heap.size, 0, none⟩)), (6, .bool true), (7, .int .i64 (refV p t x)), (8, .int .i64 ((t : Int) + 1 + (q : Nat))), (13, .bool false), (47, .bool false)] := X.fr hs hd hl_ _ (by kernel_rfl)
    have hon := hR.o
    replace hV4 := hR.q1 rfl
    replace hV5 := hR.q2 rfl
    replace G := ((G.only (fun b => w.heap.size ≤ b)).trans (hon.mono' (fun i e => by omega))).gr (fun i hi e => by omega)
    replace hq := hq.only hon (by show ¬ (bq = w4.heap.size ∨ bq = w8.heap.size); omega)
    replace hC : RCells w24 [(⟨bq, 0, none⟩, .int .i64 gq), (⟨bq, 1, none⟩, .int .i64 p.aw), (⟨bq, 2, none⟩, .int .i64 p.za), (⟨bq, 3, none⟩, .int .i64 p.bu), (⟨bq, 4, none⟩, .int .i64 p.re), (⟨bq, 5, none⟩, .int .i64 p.hold), (⟨bq, 6, none⟩, .int .i64 p.T), (⟨bq, 7, none⟩, .map (some bm)), (⟨w.heap.size, 0, none⟩, .int .i64 t), (⟨w.heap.size, 1, none⟩, .int .i64 x)] := (RCells.cons (hon.cell (hC.at 0 rfl) (by show ¬ (bq = w4.heap.size ∨ bq = w8.heap.size); omega)) (RCells.cons (hon.cell (hC.at 1 rfl) (by show ¬ (bq = w4.heap.size ∨ bq = w8.heap.size); omega)) (RCells.cons (hon.cell (hC.at 2 rfl) (by show ¬ (bq = w4.heap.size ∨ bq = w8.heap.size); omega)) (RCells.cons (hon.cell (hC.at 3 rfl) (by show ¬ (bq = w4.heap.size ∨ bq = w8.heap.size); omega)) (RCells.cons (hon.cell (hC.at 4 rfl) (by show ¬ (bq = w4.heap.size ∨ bq = w8.heap.size); omega)) (RCells.cons (hon.cell (hC.at 5 rfl) (by show ¬ (bq = w4.heap.size ∨ bq = w8.heap.size); omega)) (RCells.cons (hon.cell (hC.at 6 rfl) (by show ¬ (bq = w4.heap.size ∨ bq = w8.heap.size); omega)) (RCells.cons (hon.cell (hC.at 7 rfl) (by show ¬ (bq = w4.heap.size ∨ bq = w8.heap.size); omega)) (RCells.cons (hon.cell (hC.at 8 rfl) (by show ¬ (w.heap.size = w4.heap.size ∨ w.heap.size = w8.heap.size); omega)) (RCells.cons (hon.cell (hC.at 9 rfl) (by show ¬ (w.heap.size = w4.heap.size ∨ w.heap.size = w8.heap.size); omega)) (RCells.nil _)))))))))))
    replace hI := hI.trans hon
    clear hs hd hl_ ho hR hon
    refine X.thenN ?_
    refine Y.ret ?_
    exact Y.ret0 (v := .tuple #[.agg #[.int .i64 (t + 1 + (q : Nat)), .int .i64 ((wkV p t (refV p t x) q).1)], .agg #[.int .i64 ((wkV p t (refV p t x) q).2), .int .i64 1], .bool true]) F (Y.rcc3 F rfl (Try.agg72 _) (Try.siz72 _) (Try.agg69 _) (Try.siz69 _) (by kernel_rfl) (by kernel_rfl) (by kernel_rfl) hV4 hV5) ⟨by rw [if_neg hwk, hkN], G⟩
   | true =>
    try rw [h23] at F
    have h23p : (((t : Int) + 1 + (q : Nat) : Int) < p.T) := of_decide_eq_true h23
    refine Y.condT (F.ev 47 (.bool true)) ?_
    refine Y.skip ?_
    refine X.thenN ?_
    refine Y.seq ?_
    refine Y.block ?_
    refine Y.seq ?_
    refine Y.lit (by kernel_rfl) ?_
    refine Y.pval F (X.w0 rfl) rfl (X.move rfl (F.ev 8 (.int .i64 ((t : Int) + 1 + (q : Nat))))) ?_
    clear F ac
    intro ac F
    refine Y.pval F (X.w0 rfl) rfl (X.binop rfl (F.ev 50 (.int .i64 ((t : Int) + 1 + (q : Nat)))) (X.kc (.int .i64 1) rfl) (X.addI Try.underlying3 rfl (by omega) (by omega))) ?_
    clear F ac
    intro ac F
    refine Y.pval F (X.w0 rfl) rfl (X.move rfl (F.ev 0 (.pointer (some ⟨bq, 0, none⟩)))) ?_
    clear F ac
    intro ac F
    refine Y.pval F (X.w0 rfl) rfl (X.move rfl (F.ev 8 (.int .i64 ((t : Int) + 1 + (q : Nat))))) ?_
    clear F ac
    intro ac F
    refine Y.pval F (X.w0 rfl) rfl (X.field rfl (F.ev 4 (.pointer (some ⟨w4.heap.size, 0, none⟩))) (X.fld Try.underlying72 rfl (Try.siz3 _) rfl rfl)) ?_
    clear F ac
    intro ac F
    replace hC : RCells w22 [(⟨bq, 0, none⟩, .int .i64 gq), (⟨bq, 1, none⟩, .int .i64 p.aw), (⟨bq, 2, none⟩, .int .i64 p.za), (⟨bq, 3, none⟩, .int .i64 p.bu), (⟨bq, 4, none⟩, .int .i64 p.re), (⟨bq, 5, none⟩, .int .i64 p.hold), (⟨bq, 6, none⟩, .int .i64 p.T), (⟨bq, 7, none⟩, .map (some bm)), (⟨w.heap.size, 0, none⟩, .int .i64 t), (⟨w.heap.size, 1, none⟩, .int .i64 x), (⟨w4.heap.size, 1, none⟩, .int .i64 ((wkV p t (refV p t x) q).1))] := hC.append ((RCells.cons (hV4.cell (k := 1) (by decide)) (RCells.nil _)))
    refine Y.pval F (X.w0 rfl) rfl (X.load rfl (F.ev 54 (.pointer (some ⟨w4.heap.size, 1, none⟩))) (X.ld1 (Try.agg3 _) (hC.at 10 rfl))) ?_
    clear F ac
    intro ac F
    refine Y.pval F (X.w0 rfl) rfl (Y.bd rfl (Y.bd2 (F.ev 53 (.int .i64 ((t : Int) + 1 + (q : Nat)))) (F.ev 55 (.int .i64 ((wkV p t (refV p t x) q).1)))) (Try.bd72 _ _ _)) ?_
    clear F ac
    intro ac F
    refine Y.pcall F (X.w0 rfl) rfl (X.enter (F := 77) rfl (X.kc (.func (.func 77) #[] #[]) rfl) (X.a2 (F.ev 52 (.pointer (some ⟨bq, 0, none⟩))) (F.ev 56 (.agg #[.int .i64 ((t : Int) + 1 + (q : Nat)), .int .i64 ((wkV p t (refV p t x) q).1)]))) (enters_of Try.func77 (by kernel_rfl) rfl _)) (refilled_any bq bm gq p ((t : Int) + 1 + (q : Nat)) ((wkV p t (refV p t x) q).1) w22 hq h (by omega) (by omega)) ?_
    clear F ac
    rintro e w25 ⟨rfl, g⟩
    refine ⟨_, rfl, ?_⟩
    intro ac F
    replace G := G.trans g
    replace hC := hC.gr g
    replace hI := hI.thenGr g
    replace hq := hq.gr g
    replace hV4 := hV4.gr g
    replace hV5 := hV5.gr g
    clear g
    refine Y.pval F (X.w0 rfl) rfl (Y.bd rfl (Y.bd2 (F.ev 51 (.int .i64 (((t : Int) + 1 + (q : Nat) : Int) + 1))) (F.ev 57 (.int .i64 (refV p ((t : Int) + 1 + (q : Nat)) ((wkV p t (refV p t x) q).1))))) (Try.bd72 _ _ _)) ?_
    clear F ac
    intro ac F
    obtain ⟨w26, hrun, hS2, hon⟩ := hV4.st2 (P := Try.prog) (t := 72) (x := .int .i64 (((t : Int) + 1 + (q : Nat) : Int) + 1)) (y := .int .i64 (refV p ((t : Int) + 1 + (q : Nat)) ((wkV p t (refV p t x) q).1))) (fun W => Try.siz72 W) rfl rfl
    refine Y.punit F (X.w0 rfl) rfl (X.store rfl (F.ev 4 (.pointer (some ⟨w4.heap.size, 0, none⟩))) (F.ev 58 (.agg #[.int .i64 (((t : Int) + 1 + (q : Nat) : Int) + 1), .int .i64 (refV p ((t : Int) + 1 + (q : Nat)) ((wkV p t (refV p t x) q).1))])) hrun) ?_
    clear F ac hrun
    intro ac F
    replace G := Y.Only.up G hon (by omega)
    replace hq := hq.only hon (by show ¬ _ = _; omega)
    replace hV5 := hV5.only hon (by show ¬ _ = _; omega)
    replace hC : RCells w26 [(⟨bq, 0, none⟩, .int .i64 gq), (⟨bq, 1, none⟩, .int .i64 p.aw), (⟨bq, 2, none⟩, .int .i64 p.za), (⟨bq, 3, none⟩, .int .i64 p.bu), (⟨bq, 4, none⟩, .int .i64 p.re), (⟨bq, 5, none⟩, .int .i64 p.hold), (⟨bq, 6, none⟩, .int .i64 p.T), (⟨bq, 7, none⟩, .map (some bm)), (⟨w.heap.size, 0, none⟩, .int .i64 t), (⟨w.heap.size, 1, none⟩, .int .i64 x)] := (RCells.cons (hon.cell (hC.at 0 rfl) (by show ¬ bq = w4.heap.size; omega)) (RCells.cons (hon.cell (hC.at 1 rfl) (by show ¬ bq = w4.heap.size; omega)) (RCells.cons (hon.cell (hC.at 2 rfl) (by show ¬ bq = w4.heap.size; omega)) (RCells.cons (hon.cell (hC.at 3 rfl) (by show ¬ bq = w4.heap.size; omega)) (RCells.cons (hon.cell (hC.at 4 rfl) (by show ¬ bq = w4.heap.size; omega)) (RCells.cons (hon.cell (hC.at 5 rfl) (by show ¬ bq = w4.heap.size; omega)) (RCells.cons (hon.cell (hC.at 6 rfl) (by show ¬ bq = w4.heap.size; omega)) (RCells.cons (hon.cell (hC.at 7 rfl) (by show ¬ bq = w4.heap.size; omega)) (RCells.cons (hon.cell (hC.at 8 rfl) (by show ¬ w.heap.size = w4.heap.size; omega)) (RCells.cons (hon.cell (hC.at 9 rfl) (by show ¬ w.heap.size = w4.heap.size; omega)) (RCells.nil _)))))))))))
    replace hI := hI.step hon (.inl (.inl rfl))
    replace hV4 := hS2
    clear hS2 hon
    refine Y.nil ?_
    replace F : Fr ac 88 [(0, .pointer (some ⟨bq, 0, none⟩)), (1, .agg #[.int .i64 t, .int .i64 x]), (3, .pointer (some ⟨w.heap.size, 0, none⟩)), (4, .pointer (some ⟨w4.heap.size, 0, none⟩)), (5, .pointer (some ⟨w8.heap.size, 0, none⟩)), (6, .bool false), (7, .int .i64 (refV p t x)), (8, .int .i64 ((t : Int) + 1 + (q : Nat))), (13, .bool false), (47, .bool true)] := F.sub _
    refine X.thenN ?_
    refine Y.seq ?_
    refine Y.region F [some (.int .i64 ((t : Int) + 1 + (q : Nat))), some (.pointer (some ⟨w.heap.size, 0, none⟩)), some (.int .i64 t), some (.pointer (some ⟨bq, 0, none⟩)), some (.pointer (some ⟨bq, 0, none⟩)), some (.pointer (some ⟨bq, 5, none⟩)), some (.int .i64 p.hold), some (.int .i64 ((t : Int) + p.hold)), some (.bool (decide (((t : Int) + 1 + (q : Nat) : Int) < ((t : Int) + p.hold))))] [] rfl ⟨by kernel_rfl, of_decide_eq_true (by kernel_rfl), by kernel_rfl, by kernel_rfl, by kernel_rfl⟩ ⟨?_, ?_, ?_, ?_, ?_, ?_, ?_, ?_, ?_, trivial⟩ ?_
    ·intro ac done u W Sx hR
     exact X.val (X.w0 rfl) rfl (X.move rfl (Sx.ev 8 (.int .i64 ((t : Int) + 1 + (q : Nat))))) (hR.step (Gr.refl _) rfl)
    ·intro ac done u W Sx hR
     exact X.val (X.w0 rfl) rfl (X.field rfl (Sx.ev 3 (.pointer (some ⟨w.heap.size, 0, none⟩))) (X.fld Try.underlying72 rfl (Try.siz3 _) rfl rfl)) (hR.step (Gr.refl _) rfl)
    ·intro ac done u W Sx hR
     have g : Gr w26 W := hR.1
     exact X.val (X.w0 rfl) rfl (X.load rfl (Sx.ev 60 (.pointer (some ⟨w.heap.size, 0, none⟩))) (X.ld1 (Try.agg3 _) ((hC.gr g).at 8 rfl))) (hR.step (Gr.refl _) rfl)
    ·intro ac done u W Sx hR
     exact X.val (X.w0 rfl) rfl (X.move rfl (Sx.ev 0 (.pointer (some ⟨bq, 0, none⟩)))) (hR.step (Gr.refl _) rfl)
    ·intro ac done u W Sx hR
     exact X.val (X.w0 rfl) rfl (Y.nilC rfl (Sx.ev 62 (.pointer (some ⟨bq, 0, none⟩)))) (hR.step (Gr.refl _) rfl)
    ·intro ac done u W Sx hR
     exact X.val (X.w0 rfl) rfl (X.field rfl (Sx.ev 63 (.pointer (some ⟨bq, 0, none⟩))) (X.fld Try.underlying110 rfl (Try.siz3 _) rfl rfl)) (hR.step (Gr.refl _) rfl)
    ·intro ac done u W Sx hR
     have g : Gr w26 W := hR.1
     exact X.val (X.w0 rfl) rfl (X.load rfl (Sx.ev 64 (.pointer (some ⟨bq, 5, none⟩))) (X.ld1 (Try.agg3 _) ((hC.gr g).at 5 rfl))) (hR.step (Gr.refl _) rfl)
    ·intro ac done u W Sx hR
     exact X.val (X.w0 rfl) rfl (X.binop rfl (Sx.ev 61 (.int .i64 t)) (Sx.ev 65 (.int .i64 p.hold)) (X.addI Try.underlying3 rfl (by omega) (by omega))) (hR.step (Gr.refl _) rfl)
    ·intro ac done u W Sx hR
     exact X.val (X.w0 rfl) rfl (X.binop rfl (Sx.ev 59 (.int .i64 ((t : Int) + 1 + (q : Nat)))) (Sx.ev 66 (.int .i64 ((t : Int) + p.hold))) (X.lssI Try.underlying3 rfl)) (hR.step (Gr.refl _) rfl)
    intro ac u w27 hs hd hl ho hR
    have g : Gr w26 w27 := hR.1
    replace F : Fr ac 88 [(0, .pointer (some ⟨bq, 0, none⟩)), (1, .agg #[.int .i64 t, .int .i64 x]), (3, .pointer (some ⟨w.heap.size, 0, none⟩)), (4, .pointer (some ⟨w4.heap.size, 0, none⟩)), (5, .pointer (some ⟨w8.heap.size, 0, none⟩)), (6, .bool false), (7, .int .i64 (refV p t x)), (8, .int .i64 ((t : Int) + 1 + (q : Nat))), (13, .bool false), (47, .bool true), (67, .bool (decide (((t : Int) + 1 + (q : Nat) : Int) < ((t : Int) + p.hold))))] := X.fr hs hd hl _ (by kernel_rfl)
    clear hs hd hl ho hR
    replace G := G.trans g
    replace hC := hC.gr g
    replace hI := hI.thenGr g
    replace hq := hq.gr g
    replace hV4 := hV4.gr g
    replace hV5 := hV5.gr g
    clear g
    refine X.thenN ?_
    cases h28 : decide (((t : Int) + 1 + (q : Nat) : Int) < ((t : Int) + p.hold)) with
    | false =>
     try rw [h28] at F
     have h28p : ¬ (((t : Int) + 1 + (q : Nat) : Int) < ((t : Int) + p.hold)) := of_decide_eq_false h28
     refine Y.condF (F.ev 67 (.bool false)) ?_
     replace hC : RCells w27 [(⟨bq, 0, none⟩, .int .i64 gq), (⟨bq, 1, none⟩, .int .i64 p.aw), (⟨bq, 2, none⟩, .int .i64 p.za), (⟨bq, 3, none⟩, .int .i64 p.bu), (⟨bq, 4, none⟩, .int .i64 p.re), (⟨bq, 5, none⟩, .int .i64 p.hold), (⟨bq, 6, none⟩, .int .i64 p.T), (⟨bq, 7, none⟩, .map (some bm)), (⟨w.heap.size, 0, none⟩, .int .i64 t), (⟨w.heap.size, 1, none⟩, .int .i64 x), (⟨w8.heap.size, 0, none⟩, .int .i64 ((wkV p t (refV p t x) q).2))] := hC.append ((RCells.cons (hV5.cell (k := 0) (by decide)) (RCells.nil _)))
     refine Y.regionS F [some (.pointer (some ⟨w8.heap.size, 0, none⟩)), some (.int .i64 ((wkV p t (refV p t x) q).2)), some (.pointer (some ⟨bq, 0, none⟩)), some (.pointer (some ⟨bq, 0, none⟩)), some (.pointer (some ⟨bq, 0, none⟩)), some (.pointer (some ⟨bq, 2, none⟩)), some (.int .i64 p.za), some (.int .i64 (((wkV p t (refV p t x) q).2 : Int) + p.za)), some (.pointer (some ⟨w8.heap.size, 0, none⟩)), none] [] 9 (fun _ W => Only (fun x => x = w8.heap.size) w27 W ∧ OwnP W (w8.heap.size) 2 (VL [.int .i64 (((wkV p t (refV p t x) q).2 : Int) + p.za), .int .i64 1])) rfl ⟨by kernel_rfl, of_decide_eq_true (by kernel_rfl), by kernel_rfl, by kernel_rfl, by kernel_rfl⟩ (of_decide_eq_true (by kernel_rfl)) ⟨?_, ?_, ?_, ?_, ?_, ?_, ?_, ?_, ?_, ?_, trivial⟩ ?_
     ·intro ac done u W Sx hT
      have hs := Sx.no 9 (by kernel_rfl)
      have hR := hT.1 hs
      exact X.val (X.w0 rfl) rfl (X.field rfl (Sx.ev 5 (.pointer (some ⟨w8.heap.size, 0, none⟩))) (X.fld Try.underlying69 rfl (Try.siz3 _) rfl rfl)) (Y.RT.of hs rfl (hR.step (Gr.refl _) rfl))
     ·intro ac done u W Sx hT
      have hs := Sx.no 9 (by kernel_rfl)
      have hR := hT.1 hs
      have g : Gr w27 W := hR.1
      exact X.val (X.w0 rfl) rfl (X.load rfl (Sx.ev 77 (.pointer (some ⟨w8.heap.size, 0, none⟩))) (X.ld1 (Try.agg3 _) ((hC.gr g).at 10 rfl))) (Y.RT.of hs rfl (hR.step (Gr.refl _) rfl))
     ·intro ac done u W Sx hT
      have hs := Sx.no 9 (by kernel_rfl)
      have hR := hT.1 hs
      exact X.val (X.w0 rfl) rfl (X.move rfl (Sx.ev 0 (.pointer (some ⟨bq, 0, none⟩)))) (Y.RT.of hs rfl (hR.step (Gr.refl _) rfl))
     ·intro ac done u W Sx hT
      have hs := Sx.no 9 (by kernel_rfl)
      have hR := hT.1 hs
      exact X.val (X.w0 rfl) rfl (Y.nilC rfl (Sx.ev 79 (.pointer (some ⟨bq, 0, none⟩)))) (Y.RT.of hs rfl (hR.step (Gr.refl _) rfl))
     ·intro ac done u W Sx hT
      have hs := Sx.no 9 (by kernel_rfl)
      have hR := hT.1 hs
      exact X.val (X.w0 rfl) rfl (X.field rfl (Sx.ev 80 (.pointer (some ⟨bq, 0, none⟩))) (X.fld Try.underlying110 rfl (Try.siz31 _) rfl rfl)) (Y.RT.of hs rfl (hR.step (Gr.refl _) rfl))
     ·intro ac done u W Sx hT
      have hs := Sx.no 9 (by kernel_rfl)
      have hR := hT.1 hs
      exact X.val (X.w0 rfl) rfl (X.field rfl (Sx.ev 81 (.pointer (some ⟨bq, 0, none⟩))) (X.fld Try.underlying31 rfl (Try.siz3 _) rfl rfl)) (Y.RT.of hs rfl (hR.step (Gr.refl _) rfl))
     ·intro ac done u W Sx hT
      have hs := Sx.no 9 (by kernel_rfl)
      have hR := hT.1 hs
      have g : Gr w27 W := hR.1
      exact X.val (X.w0 rfl) rfl (X.load rfl (Sx.ev 82 (.pointer (some ⟨bq, 2, none⟩))) (X.ld1 (Try.agg3 _) ((hC.gr g).at 2 rfl))) (Y.RT.of hs rfl (hR.step (Gr.refl _) rfl))
     ·intro ac done u W Sx hT
      have hs := Sx.no 9 (by kernel_rfl)
      have hR := hT.1 hs
      exact X.val (X.w0 rfl) rfl (X.binop rfl (Sx.ev 78 (.int .i64 ((wkV p t (refV p t x) q).2))) (Sx.ev 83 (.int .i64 p.za)) (X.addI Try.underlying3 rfl (by omega) (by omega))) (Y.RT.of hs rfl (hR.step (Gr.refl _) rfl))
     ·intro ac done u W Sx hT
      have hs := Sx.no 9 (by kernel_rfl)
      have hR := hT.1 hs
      exact X.val (X.w0 rfl) rfl (X.field rfl (Sx.ev 5 (.pointer (some ⟨w8.heap.size, 0, none⟩))) (X.fld Try.underlying69 rfl (Try.siz3 _) rfl rfl)) (Y.RT.of hs rfl (hR.step (Gr.refl _) rfl))
     ·intro ac done u W Sx hT
      have hR := hT.1 Sx.nd
      have g : Gr w27 W := hR.1
      have hS2 := ((hV5.gr g).set (k := 0) (.int .i64 (((wkV p t (refV p t x) q).2 : Int) + p.za))).congr (VL_set0 _ _ _)
      exact X.unit (X.w0 rfl) rfl (X.store rfl (Sx.ev 85 (.pointer (some ⟨w8.heap.size, 0, none⟩))) (Sx.ev 84 (.int .i64 (((wkV p t (refV p t x) q).2 : Int) + p.za))) ((hV5.gr g).st1 (Try.siz3 _) rfl rfl (by decide))) (Y.RT.fin ⟨(g.only _).trans (Y.set_only _ _ _ _), hS2⟩)
     rintro ac u w29 hs hd hl_ ho ⟨hon, hS2⟩
     replace F : Fr ac 88 [(0, .pointer (some ⟨bq, 0, none⟩)), (1, .agg #[.int .i64 t, .int .i64 x]), (3, .pointer (some ⟨w.heap.size, 0, none⟩)), (4, .pointer (some ⟨w4.heap.size, 0, none⟩)), (5, .pointer (some ⟨w8.heap.size, 0, none⟩)), (6, .bool false), (7, .int .i64 (refV p t x)), (8, .int .i64 ((t : Int) + 1 + (q : Nat))), (13, .bool false), (47, .bool true), (67, .bool false)] := X.fr hs hd hl_ _ (by kernel_rfl)
     clear hs hd hl_ ho
     replace G := Y.Only.up G hon (by omega)
     replace hq := hq.only hon (by show ¬ bq = w8.heap.size; omega)
     replace hV4 := hV4.only hon (by show ¬ w4.heap.size = w8.heap.size; omega)
     replace hV5 := hS2
     replace hC : RCells w29 [(⟨bq, 0, none⟩, .int .i64 gq), (⟨bq, 1, none⟩, .int .i64 p.aw), (⟨bq, 2, none⟩, .int .i64 p.za), (⟨bq, 3, none⟩, .int .i64 p.bu), (⟨bq, 4, none⟩, .int .i64 p.re), (⟨bq, 5, none⟩, .int .i64 p.hold), (⟨bq, 6, none⟩, .int .i64 p.T), (⟨bq, 7, none⟩, .map (some bm)), (⟨w.heap.size, 0, none⟩, .int .i64 t), (⟨w.heap.size, 1, none⟩, .int .i64 x)] := (RCells.cons (hon.cell (hC.at 0 rfl) (by show ¬ bq = w8.heap.size; omega)) (RCells.cons (hon.cell (hC.at 1 rfl) (by show ¬ bq = w8.heap.size; omega)) (RCells.cons (hon.cell (hC.at 2 rfl) (by show ¬ bq = w8.heap.size; omega)) (RCells.cons (hon.cell (hC.at 3 rfl) (by show ¬ bq = w8.heap.size; omega)) (RCells.cons (hon.cell (hC.at 4 rfl) (by show ¬ bq = w8.heap.size; omega)) (RCells.cons (hon.cell (hC.at 5 rfl) (by show ¬ bq = w8.heap.size; omega)) (RCells.cons (hon.cell (hC.at 6 rfl) (by show ¬ bq = w8.heap.size; omega)) (RCells.cons (hon.cell (hC.at 7 rfl) (by show ¬ bq = w8.heap.size; omega)) (RCells.cons (hon.cell (hC.at 8 rfl) (by show ¬ w.heap.size = w8.heap.size; omega)) (RCells.cons (hon.cell (hC.at 9 rfl) (by show ¬ w.heap.size = w8.heap.size; omega)) (RCells.nil _)))))))))))
     replace hI := hI.step hon (.inl (.inr rfl))
     clear hon hS2
     refine X.blockN ?_
     refine X.thenN ?_
     refine Y.lit (by kernel_rfl) ?_
     refine Y.pval F (X.w0 rfl) rfl (X.move rfl (F.ev 8 (.int .i64 ((t : Int) + 1 + (q : Nat))))) ?_
     clear F ac
     intro ac F
     refine Y.pval F (X.w0 rfl) rfl (X.binop rfl (F.ev 48 (.int .i64 ((t : Int) + 1 + (q : Nat)))) (X.kc (.int .i64 1) rfl) (X.addI Try.underlying3 rfl (by omega) (by omega))) ?_
     clear F ac
     intro ac F
     refine Y.pval F (X.w0 rfl) rfl (X.assign rfl (F.ev 49 (.int .i64 (((t : Int) + 1 + (q : Nat) : Int) + 1)))) ?_
     clear F ac
     intro ac F
     refine Y.nil ?_
     replace F : Fr ac 88 [(0, .pointer (some ⟨bq, 0, none⟩)), (1, .agg #[.int .i64 t, .int .i64 x]), (3, .pointer (some ⟨w.heap.size, 0, none⟩)), (4, .pointer (some ⟨w4.heap.size, 0, none⟩)), (5, .pointer (some ⟨w8.heap.size, 0, none⟩)), (6, .bool false), (7, .int .i64 (refV p t x)), (8, .int .i64 (((t : Int) + 1 + (q : Nat) : Int) + 1)), (13, .bool false), (47, .bool true), (67, .bool false)] := F.sub _
     refine X.thenN ?_
     refine ⟨_, ?_, q + 1, rfl, wkN_lt h19p h23p, hI, (by rw [show (t : Int) + 1 + ((q + 1 : Nat) : Int) = t + 1 + (q : Nat) + 1 by omega]; exact hV4), (by show OwnP _ _ 2 (VL [.int .i64 ((wkV p t (refV p t x) q).2 + (if t + 1 + (q : Nat) < t + p.hold then p.aw else p.za)), _]); rw [if_neg (by omega)]; exact hV5), (by rw [show (t : Int) + 1 + ((q + 1 : Nat) : Int) = t + 1 + (q : Nat) + 1 by omega]; exact F.sub _)⟩
     omega
    | true =>
     try rw [h28] at F
     have h28p : (((t : Int) + 1 + (q : Nat) : Int) < ((t : Int) + p.hold)) := of_decide_eq_true h28
     refine Y.condT (F.ev 67 (.bool true)) ?_
     replace hC : RCells w27 [(⟨bq, 0, none⟩, .int .i64 gq), (⟨bq, 1, none⟩, .int .i64 p.aw), (⟨bq, 2, none⟩, .int .i64 p.za), (⟨bq, 3, none⟩, .int .i64 p.bu), (⟨bq, 4, none⟩, .int .i64 p.re), (⟨bq, 5, none⟩, .int .i64 p.hold), (⟨bq, 6, none⟩, .int .i64 p.T), (⟨bq, 7, none⟩, .map (some bm)), (⟨w.heap.size, 0, none⟩, .int .i64 t), (⟨w.heap.size, 1, none⟩, .int .i64 x), (⟨w8.heap.size, 0, none⟩, .int .i64 ((wkV p t (refV p t x) q).2))] := hC.append ((RCells.cons (hV5.cell (k := 0) (by decide)) (RCells.nil _)))
     refine Y.regionS F [some (.pointer (some ⟨w8.heap.size, 0, none⟩)), some (.int .i64 ((wkV p t (refV p t x) q).2)), some (.pointer (some ⟨bq, 0, none⟩)), some (.pointer (some ⟨bq, 0, none⟩)), some (.pointer (some ⟨bq, 0, none⟩)), some (.pointer (some ⟨bq, 1, none⟩)), some (.int .i64 p.aw), some (.int .i64 (((wkV p t (refV p t x) q).2 : Int) + p.aw)), some (.pointer (some ⟨w8.heap.size, 0, none⟩)), none] [] 9 (fun _ W => Only (fun x => x = w8.heap.size) w27 W ∧ OwnP W (w8.heap.size) 2 (VL [.int .i64 (((wkV p t (refV p t x) q).2 : Int) + p.aw), .int .i64 1])) rfl ⟨by kernel_rfl, of_decide_eq_true (by kernel_rfl), by kernel_rfl, by kernel_rfl, by kernel_rfl⟩ (of_decide_eq_true (by kernel_rfl)) ⟨?_, ?_, ?_, ?_, ?_, ?_, ?_, ?_, ?_, ?_, trivial⟩ ?_
     ·intro ac done u W Sx hT
      have hs := Sx.no 9 (by kernel_rfl)
      have hR := hT.1 hs
      exact X.val (X.w0 rfl) rfl (X.field rfl (Sx.ev 5 (.pointer (some ⟨w8.heap.size, 0, none⟩))) (X.fld Try.underlying69 rfl (Try.siz3 _) rfl rfl)) (Y.RT.of hs rfl (hR.step (Gr.refl _) rfl))
     ·intro ac done u W Sx hT
      have hs := Sx.no 9 (by kernel_rfl)
      have hR := hT.1 hs
      have g : Gr w27 W := hR.1
      exact X.val (X.w0 rfl) rfl (X.load rfl (Sx.ev 68 (.pointer (some ⟨w8.heap.size, 0, none⟩))) (X.ld1 (Try.agg3 _) ((hC.gr g).at 10 rfl))) (Y.RT.of hs rfl (hR.step (Gr.refl _) rfl))
     ·intro ac done u W Sx hT
      have hs := Sx.no 9 (by kernel_rfl)
      have hR := hT.1 hs
      exact X.val (X.w0 rfl) rfl (X.move rfl (Sx.ev 0 (.pointer (some ⟨bq, 0, none⟩)))) (Y.RT.of hs rfl (hR.step (Gr.refl _) rfl))
     ·intro ac done u W Sx hT
      have hs := Sx.no 9 (by kernel_rfl)
      have hR := hT.1 hs
      exact X.val (X.w0 rfl) rfl (Y.nilC rfl (Sx.ev 70 (.pointer (some ⟨bq, 0, none⟩)))) (Y.RT.of hs rfl (hR.step (Gr.refl _) rfl))
     ·intro ac done u W Sx hT
      have hs := Sx.no 9 (by kernel_rfl)
      have hR := hT.1 hs
      exact X.val (X.w0 rfl) rfl (X.field rfl (Sx.ev 71 (.pointer (some ⟨bq, 0, none⟩))) (X.fld Try.underlying110 rfl (Try.siz31 _) rfl rfl)) (Y.RT.of hs rfl (hR.step (Gr.refl _) rfl))
     ·intro ac done u W Sx hT
      have hs := Sx.no 9 (by kernel_rfl)
      have hR := hT.1 hs
      exact X.val (X.w0 rfl) rfl (X.field rfl (Sx.ev 72 (.pointer (some ⟨bq, 0, none⟩))) (X.fld Try.underlying31 rfl (Try.siz3 _) rfl rfl)) (Y.RT.of hs rfl (hR.step (Gr.refl _) rfl))
     ·intro ac done u W Sx hT
      have hs := Sx.no 9 (by kernel_rfl)
      have hR := hT.1 hs
      have g : Gr w27 W := hR.1
      exact X.val (X.w0 rfl) rfl (X.load rfl (Sx.ev 73 (.pointer (some ⟨bq, 1, none⟩))) (X.ld1 (Try.agg3 _) ((hC.gr g).at 1 rfl))) (Y.RT.of hs rfl (hR.step (Gr.refl _) rfl))
     ·intro ac done u W Sx hT
      have hs := Sx.no 9 (by kernel_rfl)
      have hR := hT.1 hs
      exact X.val (X.w0 rfl) rfl (X.binop rfl (Sx.ev 69 (.int .i64 ((wkV p t (refV p t x) q).2))) (Sx.ev 74 (.int .i64 p.aw)) (X.addI Try.underlying3 rfl (by omega) (by omega))) (Y.RT.of hs rfl (hR.step (Gr.refl _) rfl))
     ·intro ac done u W Sx hT
      have hs := Sx.no 9 (by kernel_rfl)
      have hR := hT.1 hs
      exact X.val (X.w0 rfl) rfl (X.field rfl (Sx.ev 5 (.pointer (some ⟨w8.heap.size, 0, none⟩))) (X.fld Try.underlying69 rfl (Try.siz3 _) rfl rfl)) (Y.RT.of hs rfl (hR.step (Gr.refl _) rfl))
     ·intro ac done u W Sx hT
      have hR := hT.1 Sx.nd
      have g : Gr w27 W := hR.1
      have hS2 := ((hV5.gr g).set (k := 0) (.int .i64 (((wkV p t (refV p t x) q).2 : Int) + p.aw))).congr (VL_set0 _ _ _)
      exact X.unit (X.w0 rfl) rfl (X.store rfl (Sx.ev 76 (.pointer (some ⟨w8.heap.size, 0, none⟩))) (Sx.ev 75 (.int .i64 (((wkV p t (refV p t x) q).2 : Int) + p.aw))) ((hV5.gr g).st1 (Try.siz3 _) rfl rfl (by decide))) (Y.RT.fin ⟨(g.only _).trans (Y.set_only _ _ _ _), hS2⟩)
     rintro ac u w30 hs hd hl_ ho ⟨hon, hS2⟩
     replace F : Fr ac 88 [(0, .pointer (some ⟨bq, 0, none⟩)), (1, .agg #[.int .i64 t, .int .i64 x]), (3, .pointer (some ⟨w.heap.size, 0, none⟩)), (4, .pointer (some ⟨w4.heap.size, 0, none⟩)), (5, .pointer (some ⟨w8.heap.size, 0, none⟩)), (6, .bool false), (7, .int .i64 (refV p t x)), (8, .int .i64 ((t : Int) + 1 + (q : Nat))), (13, .bool false), (47, .bool true), (67, .bool true)] := X.fr hs hd hl_ _ (by kernel_rfl)
     clear hs hd hl_ ho
     replace G := Y.Only.up G hon (by omega)
     replace hq := hq.only hon (by show ¬ bq = w8.heap.size; omega)
     replace hV4 := hV4.only hon (by show ¬ w4.heap.size = w8.heap.size; omega)
     replace hV5 := hS2
     replace hC : RCells w30 [(⟨bq, 0, none⟩, .int .i64 gq), (⟨bq, 1, none⟩, .int .i64 p.aw), (⟨bq, 2, none⟩, .int .i64 p.za), (⟨bq, 3, none⟩, .int .i64 p.bu), (⟨bq, 4, none⟩, .int .i64 p.re), (⟨bq, 5, none⟩, .int .i64 p.hold), (⟨bq, 6, none⟩, .int .i64 p.T), (⟨bq, 7, none⟩, .map (some bm)), (⟨w.heap.size, 0, none⟩, .int .i64 t), (⟨w.heap.size, 1, none⟩, .int .i64 x)] := (RCells.cons (hon.cell (hC.at 0 rfl) (by show ¬ bq = w8.heap.size; omega)) (RCells.cons (hon.cell (hC.at 1 rfl) (by show ¬ bq = w8.heap.size; omega)) (RCells.cons (hon.cell (hC.at 2 rfl) (by show ¬ bq = w8.heap.size; omega)) (RCells.cons (hon.cell (hC.at 3 rfl) (by show ¬ bq = w8.heap.size; omega)) (RCells.cons (hon.cell (hC.at 4 rfl) (by show ¬ bq = w8.heap.size; omega)) (RCells.cons (hon.cell (hC.at 5 rfl) (by show ¬ bq = w8.heap.size; omega)) (RCells.cons (hon.cell (hC.at 6 rfl) (by show ¬ bq = w8.heap.size; omega)) (RCells.cons (hon.cell (hC.at 7 rfl) (by show ¬ bq = w8.heap.size; omega)) (RCells.cons (hon.cell (hC.at 8 rfl) (by show ¬ w.heap.size = w8.heap.size; omega)) (RCells.cons (hon.cell (hC.at 9 rfl) (by show ¬ w.heap.size = w8.heap.size; omega)) (RCells.nil _)))))))))))
     replace hI := hI.step hon (.inl (.inr rfl))
     clear hon hS2
     refine X.blockN ?_
     refine X.thenN ?_
     refine Y.lit (by kernel_rfl) ?_
     refine Y.pval F (X.w0 rfl) rfl (X.move rfl (F.ev 8 (.int .i64 ((t : Int) + 1 + (q : Nat))))) ?_
     clear F ac
     intro ac F
     refine Y.pval F (X.w0 rfl) rfl (X.binop rfl (F.ev 48 (.int .i64 ((t : Int) + 1 + (q : Nat)))) (X.kc (.int .i64 1) rfl) (X.addI Try.underlying3 rfl (by omega) (by omega))) ?_
     clear F ac
     intro ac F
     refine Y.pval F (X.w0 rfl) rfl (X.assign rfl (F.ev 49 (.int .i64 (((t : Int) + 1 + (q : Nat) : Int) + 1)))) ?_
     clear F ac
     intro ac F
     refine Y.nil ?_
     replace F : Fr ac 88 [(0, .pointer (some ⟨bq, 0, none⟩)), (1, .agg #[.int .i64 t, .int .i64 x]), (3, .pointer (some ⟨w.heap.size, 0, none⟩)), (4, .pointer (some ⟨w4.heap.size, 0, none⟩)), (5, .pointer (some ⟨w8.heap.size, 0, none⟩)), (6, .bool false), (7, .int .i64 (refV p t x)), (8, .int .i64 (((t : Int) + 1 + (q : Nat) : Int) + 1)), (13, .bool false), (47, .bool true), (67, .bool true)] := F.sub _
     refine X.thenN ?_
     refine ⟨_, ?_, q + 1, rfl, wkN_lt h19p h23p, hI, (by rw [show (t : Int) + 1 + ((q + 1 : Nat) : Int) = t + 1 + (q : Nat) + 1 by omega]; exact hV4), (by show OwnP _ _ 2 (VL [.int .i64 ((wkV p t (refV p t x) q).2 + (if t + 1 + (q : Nat) < t + p.hold then p.aw else p.za)), _]); rw [if_pos (by omega)]; exact hV5), (by rw [show (t : Int) + 1 + ((q + 1 : Nat) : Int) = t + 1 + (q : Nat) + 1 by omega]; exact F.sub _)⟩
     omega
 | true =>
  try rw [h15] at F
  have h15p : (refV p t x : Int) = 0 := by simpa using h15
  have hwk : refV p t x = 0 := h15p
  have hrb := refV_nn h (t := t) hx.1 hx.2
  refine Y.condT (F.ev 13 (.bool true)) ?_
  refine Y.seq ?_
  replace hC : RCells w14 [(⟨bq, 0, none⟩, .int .i64 gq), (⟨bq, 1, none⟩, .int .i64 p.aw), (⟨bq, 2, none⟩, .int .i64 p.za), (⟨bq, 3, none⟩, .int .i64 p.bu), (⟨bq, 4, none⟩, .int .i64 p.re), (⟨bq, 5, none⟩, .int .i64 p.hold), (⟨bq, 6, none⟩, .int .i64 p.T), (⟨bq, 7, none⟩, .map (some bm)), (⟨w.heap.size, 0, none⟩, .int .i64 t), (⟨w.heap.size, 1, none⟩, .int .i64 x), (⟨w8.heap.size, 0, none⟩, .int .i64 0)] := hC.append ((RCells.cons (hV9.cell (k := 0) (by decide)) (RCells.nil _)))
  replace hC : RCells w14 [(⟨bq, 0, none⟩, .int .i64 gq), (⟨bq, 1, none⟩, .int .i64 p.aw), (⟨bq, 2, none⟩, .int .i64 p.za), (⟨bq, 3, none⟩, .int .i64 p.bu), (⟨bq, 4, none⟩, .int .i64 p.re), (⟨bq, 5, none⟩, .int .i64 p.hold), (⟨bq, 6, none⟩, .int .i64 p.T), (⟨bq, 7, none⟩, .map (some bm)), (⟨w.heap.size, 0, none⟩, .int .i64 t), (⟨w.heap.size, 1, none⟩, .int .i64 x), (⟨w8.heap.size, 0, none⟩, .int .i64 0), (⟨w8.heap.size, 1, none⟩, .int .i64 0)] := hC.append ((RCells.cons (hV9.cell (k := 1) (by decide)) (RCells.nil _)))
  refine region_xi F [some (.agg #[.int .i64 t, .int .i64 x]), some (.agg #[.int .i64 0, .int .i64 0]), none, none, some (.bool false)] (RT2 w14 (w4.heap.size) 2 (w8.heap.size) 3 (VL [.int .i64 0, .int .i64 0]) (VL [.int .i64 t, .int .i64 x]) (VL [.int .i64 0, .int .i64 0]) (VL [.int .i64 0, .int .i64 0])) rfl ⟨by kernel_rfl, of_decide_eq_true (by kernel_rfl), by kernel_rfl, by kernel_rfl, by kernel_rfl⟩ (fun _ => ⟨RT2.start (Gr.refl _) hV5 hV9, RT2.start (Gr.drew _) hV5 hV9⟩) ⟨?_, ?_, ?_, ?_, ?_, trivial⟩ ?_
  ·intro ac done u W Sx hR
   exact X.val (X.w0 rfl) rfl (X.load rfl (Sx.ev 3 (.pointer (some ⟨w.heap.size, 0, none⟩))) (X.ldN (Try.agg72 _) (Try.siz72 _) (Y.atz (⟨w.heap.size, 0, none⟩) (Y.AtFrom.cons (hR.o.cell (hC.at 8 rfl) (by show ¬ (w.heap.size = w4.heap.size ∨ w.heap.size = w8.heap.size); omega)) (Y.AtFrom.cons (hR.o.cell (hC.at 9 rfl) (by show ¬ (w.heap.size = w4.heap.size ∨ w.heap.size = w8.heap.size); omega)) (Y.AtFrom.nil _ _ _)))))) (hR.quiet (by decide))
  ·intro ac done u W Sx hR
   exact X.val (X.w0 rfl) rfl (X.load rfl (Sx.ev 5 (.pointer (some ⟨w8.heap.size, 0, none⟩))) (X.ldN (Try.agg69 _) (Try.siz69 _) (Y.atz (⟨w8.heap.size, 0, none⟩) (Y.AtFrom.cons ((hR.p2 (Sx.no 3 (by kernel_rfl))).cell (k := 0) (by decide)) (Y.AtFrom.cons ((hR.p2 (Sx.no 3 (by kernel_rfl))).cell (k := 1) (by decide)) (Y.AtFrom.nil _ _ _)))))) (hR.quiet (by decide))
  ·intro ac done u W Sx hR
   obtain ⟨W2, hrun, hS2, hon⟩ := (hR.p1 Sx.nd).st2 (P := Try.prog) (t := 72) (x := .int .i64 t) (y := .int .i64 x) (fun W => Try.siz72 W) rfl rfl
   exact X.unit (X.w0 rfl) rfl (X.store rfl (Sx.ev 4 (.pointer (some ⟨w4.heap.size, 0, none⟩))) (Sx.ev 14 (.agg #[.int .i64 t, .int .i64 x])) hrun) (hR.st1 (by decide) (by omega) hS2 hon)
  ·intro ac done u W Sx hR
   obtain ⟨W2, hrun, hS2, hon⟩ := (hR.p2 Sx.nd).st2 (P := Try.prog) (t := 69) (x := .int .i64 0) (y := .int .i64 0) (fun W => Try.siz69 W) rfl rfl
   exact X.unit (X.w0 rfl) rfl (X.store rfl (Sx.ev 5 (.pointer (some ⟨w8.heap.size, 0, none⟩))) (Sx.ev 15 (.agg #[.int .i64 0, .int .i64 0])) hrun) (hR.st2 (by decide) (by omega) hS2 hon)
  ·intro ac done u W Sx hR
   exact X.val (X.w0 rfl) rfl (X.assign rfl (X.kc (.bool false) rfl)) (hR.quiet (by decide))
  rintro ac u w31 hs hd hl_ ho hR
  replace F : Fr ac 88 [(0, .pointer (some ⟨bq, 0, none⟩)), (1, .agg #[.int .i64 t, .int .i64 x]), (3, .pointer (some ⟨w.heap.size, 0, none⟩)), (4, .pointer (some ⟨w4.heap.size, 0, none⟩)), (5, .pointer (some ⟨w8.heap.size, 0, none⟩)), (6, .bool false), (7, .int .i64 (refV p t x)), (13, .bool true)] := X.fr hs hd hl_ _ (by kernel_rfl)
  have hon := hR.o
  replace hV5 := hR.q1 rfl
  replace hV9 := hR.q2 rfl
  replace G := ((G.only (fun b => w.heap.size ≤ b)).trans (hon.mono' (fun i e => by omega))).gr (fun i hi e => by omega)
  replace hq := hq.only hon (by show ¬ (bq = w4.heap.size ∨ bq = w8.heap.size); omega)
  replace hC : RCells w31 [(⟨bq, 0, none⟩, .int .i64 gq), (⟨bq, 1, none⟩, .int .i64 p.aw), (⟨bq, 2, none⟩, .int .i64 p.za), (⟨bq, 3, none⟩, .int .i64 p.bu), (⟨bq, 4, none⟩, .int .i64 p.re), (⟨bq, 5, none⟩, .int .i64 p.hold), (⟨bq, 6, none⟩, .int .i64 p.T), (⟨bq, 7, none⟩, .map (some bm)), (⟨w.heap.size, 0, none⟩, .int .i64 t), (⟨w.heap.size, 1, none⟩, .int .i64 x)] := (RCells.cons (hon.cell (hC.at 0 rfl) (by show ¬ (bq = w4.heap.size ∨ bq = w8.heap.size); omega)) (RCells.cons (hon.cell (hC.at 1 rfl) (by show ¬ (bq = w4.heap.size ∨ bq = w8.heap.size); omega)) (RCells.cons (hon.cell (hC.at 2 rfl) (by show ¬ (bq = w4.heap.size ∨ bq = w8.heap.size); omega)) (RCells.cons (hon.cell (hC.at 3 rfl) (by show ¬ (bq = w4.heap.size ∨ bq = w8.heap.size); omega)) (RCells.cons (hon.cell (hC.at 4 rfl) (by show ¬ (bq = w4.heap.size ∨ bq = w8.heap.size); omega)) (RCells.cons (hon.cell (hC.at 5 rfl) (by show ¬ (bq = w4.heap.size ∨ bq = w8.heap.size); omega)) (RCells.cons (hon.cell (hC.at 6 rfl) (by show ¬ (bq = w4.heap.size ∨ bq = w8.heap.size); omega)) (RCells.cons (hon.cell (hC.at 7 rfl) (by show ¬ (bq = w4.heap.size ∨ bq = w8.heap.size); omega)) (RCells.cons (hon.cell (hC.at 8 rfl) (by show ¬ (w.heap.size = w4.heap.size ∨ w.heap.size = w8.heap.size); omega)) (RCells.cons (hon.cell (hC.at 9 rfl) (by show ¬ (w.heap.size = w4.heap.size ∨ w.heap.size = w8.heap.size); omega)) (RCells.nil _)))))))))))
  clear hs hd hl_ ho hR hon
  refine X.thenN ?_
  refine Y.ret ?_
  refine X.thenR ?_
  exact Y.ret0 (v := .tuple #[.agg #[.int .i64 t, .int .i64 x], .agg #[.int .i64 0, .int .i64 0], .bool false]) F (Y.rcc3 F rfl (Try.agg72 _) (Try.siz72 _) (Try.agg69 _) (Try.siz69 _) (by kernel_rfl) (by kernel_rfl) (by kernel_rfl) hV5 hV9) ⟨by rw [if_pos hwk], G⟩
end
section
open Go.RowKit

set_option maxRecDepth 100000 in
set_option maxHeartbeats 400000 in
theorem better_any (x y z r : Int) (w : World) :
  Calls Try.prog 74 #[.agg #[.int .i64 x, .int .i64 y], .agg #[.int .i64 z, .int .i64 r]] w fun e w' => e = .returned (.bool (betB (x, y) (z, r))) ∧ Gr w w' := by
 have G := Gr.refl w
 refine Y.calls 18 Try.func74 rfl rfl ?_
 intro ac F0
 have F : Fr ac 18 [(0, .agg #[.int .i64 x, .int .i64 y]), (1, .agg #[.int .i64 z, .int .i64 r])] := F0.sub _
 clear F0
 refine Y.seq ?_
 refine Y.lit (by kernel_rfl) ?_
 refine Y.pval F (X.w0 rfl) rfl (X.box rfl (F.ev 0 (.agg #[.int .i64 x, .int .i64 y])) X.bx) ?_
 clear F ac
 intro ac F
 have g := Gr.alloc w (.cells #[.int .i64 x, .int .i64 y] 69)
 have hb := heap_alloc_new w (.cells #[.int .i64 x, .int .i64 y] 69)
 have hbl : w.heap.size < (w.alloc (.cells #[.int .i64 x, .int .i64 y] 69)).heap.size := by simp
 have hC2 : RCells (w.alloc (.cells #[.int .i64 x, .int .i64 y] 69)) [(⟨w.heap.size, 0, none⟩, .int .i64 x), (⟨w.heap.size, 1, none⟩, .int .i64 y)] := (RCells.nil w).box (b := w.heap.size) #[.int .i64 x, .int .i64 y] 69 rfl
 generalize w.alloc (.cells #[.int .i64 x, .int .i64 y] 69) = w3 at *
 replace G := G.trans g
 have hC := hC2
 clear hC2
 clear g hb hbl
 refine Y.pval F (X.w0 rfl) rfl (X.box rfl (F.ev 1 (.agg #[.int .i64 z, .int .i64 r])) X.bx) ?_
 clear F ac
 intro ac F
 have hq4 : w.heap.size < w3.heap.size := lt_cell (hC.at 0 rfl)
 have g := Gr.alloc w3 (.cells #[.int .i64 z, .int .i64 r] 69)
 have hb := heap_alloc_new w3 (.cells #[.int .i64 z, .int .i64 r] 69)
 have hbl : w3.heap.size < (w3.alloc (.cells #[.int .i64 z, .int .i64 r] 69)).heap.size := by simp
 have hC2 : RCells (w3.alloc (.cells #[.int .i64 z, .int .i64 r] 69)) [(⟨w.heap.size, 0, none⟩, .int .i64 x), (⟨w.heap.size, 1, none⟩, .int .i64 y), (⟨w3.heap.size, 0, none⟩, .int .i64 z), (⟨w3.heap.size, 1, none⟩, .int .i64 r)] := hC.box (b := w3.heap.size) #[.int .i64 z, .int .i64 r] 69 rfl
 generalize w3.alloc (.cells #[.int .i64 z, .int .i64 r] 69) = w5 at *
 replace G := G.trans g
 replace hC := hC2
 clear hC2
 clear g hb hbl
 refine Y.pval F (X.w0 rfl) rfl (X.assign rfl (X.kc (.bool false) rfl)) ?_
 clear F ac
 intro ac F
 refine Y.nil ?_
 replace F : Fr ac 18 [(0, .agg #[.int .i64 x, .int .i64 y]), (1, .agg #[.int .i64 z, .int .i64 r]), (2, .pointer (some ⟨w.heap.size, 0, none⟩)), (3, .pointer (some ⟨w3.heap.size, 0, none⟩)), (4, .bool false)] := F.sub _
 refine X.thenN ?_
 refine Y.seq ?_
 refine Y.region F [some (.pointer (some ⟨w.heap.size, 0, none⟩)), some (.int .i64 x), some (.pointer (some ⟨w3.heap.size, 0, none⟩)), some (.int .i64 z), some (.int .i64 (cmpI x z)), some (.pointer (some ⟨w3.heap.size, 1, none⟩)), some (.int .i64 r), some (.pointer (some ⟨w.heap.size, 1, none⟩)), some (.int .i64 y), some (.int .i64 (cmpI r y)), none, some (.int .i64 (orI (cmpI x z) (cmpI r y))), some (.bool (decide ((0 : Int) < (orI (cmpI x z) (cmpI r y))))), some (.bool (decide ((0 : Int) < (orI (cmpI x z) (cmpI r y)))))] [(10, Y.MP.two (cmpI x z) (cmpI r y))] rfl ⟨by kernel_rfl, of_decide_eq_true (by kernel_rfl), by kernel_rfl, by kernel_rfl, by kernel_rfl⟩ ⟨?_, ?_, ?_, ?_, ?_, ?_, ?_, ?_, ?_, ?_, ?_, ?_, ?_, ?_, trivial⟩ ?_
 ·intro ac done u W Sx hR
  exact X.val (X.w0 rfl) rfl (X.field rfl (Sx.ev 2 (.pointer (some ⟨w.heap.size, 0, none⟩))) (X.fld Try.underlying69 rfl (Try.siz3 _) rfl rfl)) (hR.step (Gr.refl _) rfl)
 ·intro ac done u W Sx hR
  have g : Gr w5 W := hR.1
  exact X.val (X.w0 rfl) rfl (X.load rfl (Sx.ev 5 (.pointer (some ⟨w.heap.size, 0, none⟩))) (X.ld1 (Try.agg3 _) ((hC.gr g).at 0 rfl))) (hR.step (Gr.refl _) rfl)
 ·intro ac done u W Sx hR
  exact X.val (X.w0 rfl) rfl (X.field rfl (Sx.ev 3 (.pointer (some ⟨w3.heap.size, 0, none⟩))) (X.fld Try.underlying69 rfl (Try.siz3 _) rfl rfl)) (hR.step (Gr.refl _) rfl)
 ·intro ac done u W Sx hR
  have g : Gr w5 W := hR.1
  exact X.val (X.w0 rfl) rfl (X.load rfl (Sx.ev 7 (.pointer (some ⟨w3.heap.size, 0, none⟩))) (X.ld1 (Try.agg3 _) ((hC.gr g).at 2 rfl))) (hR.step (Gr.refl _) rfl)
 ·intro ac done u W Sx hR
  refine X.call (X.w0 rfl) (X.enter (F := 86) rfl (X.kc (.func (.func 86) #[] #[]) rfl) (X.a2 (Sx.ev 6 (.int .i64 x)) (Sx.ev 8 (.int .i64 z))) (enters_of Try.func86 (by kernel_rfl) rfl _)) (compare_any x z W) ?_
  rintro e W2 ⟨rfl, rfl⟩
  exact ⟨_, rfl, X.kn rfl, hR.step (Gr.refl _) rfl⟩
 ·intro ac done u W Sx hR
  exact X.val (X.w0 rfl) rfl (X.field rfl (Sx.ev 3 (.pointer (some ⟨w3.heap.size, 0, none⟩))) (X.fld Try.underlying69 rfl (Try.siz3 _) rfl rfl)) (hR.step (Gr.refl _) rfl)
 ·intro ac done u W Sx hR
  have g : Gr w5 W := hR.1
  exact X.val (X.w0 rfl) rfl (X.load rfl (Sx.ev 10 (.pointer (some ⟨w3.heap.size, 1, none⟩))) (X.ld1 (Try.agg3 _) ((hC.gr g).at 3 rfl))) (hR.step (Gr.refl _) rfl)
 ·intro ac done u W Sx hR
  exact X.val (X.w0 rfl) rfl (X.field rfl (Sx.ev 2 (.pointer (some ⟨w.heap.size, 0, none⟩))) (X.fld Try.underlying69 rfl (Try.siz3 _) rfl rfl)) (hR.step (Gr.refl _) rfl)
 ·intro ac done u W Sx hR
  have g : Gr w5 W := hR.1
  exact X.val (X.w0 rfl) rfl (X.load rfl (Sx.ev 12 (.pointer (some ⟨w.heap.size, 1, none⟩))) (X.ld1 (Try.agg3 _) ((hC.gr g).at 1 rfl))) (hR.step (Gr.refl _) rfl)
 ·intro ac done u W Sx hR
  refine X.call (X.w0 rfl) (X.enter (F := 86) rfl (X.kc (.func (.func 86) #[] #[]) rfl) (X.a2 (Sx.ev 11 (.int .i64 r)) (Sx.ev 13 (.int .i64 y))) (enters_of Try.func86 (by kernel_rfl) rfl _)) (compare_any r y W) ?_
  rintro e W2 ⟨rfl, rfl⟩
  exact ⟨_, rfl, X.kn rfl, hR.step (Gr.refl _) rfl⟩
 ·intro ac done u W Sx hR
  have hb := heap_alloc_new W (.cells #[.int .i64 (cmpI x z), .int .i64 (cmpI r y)] 3)
  exact X.valN (X.w0 rfl) rfl (X.bs rfl (X.b2 (Sx.ev 9 (.int .i64 (cmpI x z))) (Sx.ev 14 (.int .i64 (cmpI r y)))) (Try.bs34_2 _ _ _)) (hR.new (q := Y.MP.two (cmpI x z) (cmpI r y)) (Gr.alloc _ _) rfl ⟨_, rfl, cell_new rfl, cell_new rfl⟩)
 ·intro ac done u W Sx hR
  obtain ⟨nb6, e10, nx6, ny6⟩ := hR.get (i := 10) (Y.MP.two (cmpI x z) (cmpI r y)) rfl (Sx.an 10 (by kernel_rfl))
  refine X.call (X.w0 rfl) (X.enter (F := 85) rfl (X.kc (.func (.func 85) #[] #[]) rfl) (X.a1 ((Sx.own 10 15 rfl).trans e10)) (enters_of Try.func85 (by kernel_rfl) rfl _)) (or_any ⟨nb6, 0, none⟩ 2 (cmpI x z) (cmpI r y) W nx6 ny6) ?_
  rintro e W2 ⟨rfl, rfl⟩
  exact ⟨_, rfl, X.kn rfl, hR.step (Gr.refl _) rfl⟩
 ·intro ac done u W Sx hR
  exact X.val (X.w0 rfl) rfl (X.binop rfl (Sx.ev 16 (.int .i64 (orI (cmpI x z) (cmpI r y)))) (X.kc (.int .i64 0) rfl) (X.gtrI Try.underlying3 rfl)) (hR.step (Gr.refl _) rfl)
 ·intro ac done u W Sx hR
  exact X.val (X.w0 rfl) rfl (X.assign rfl (Sx.ev 17 (.bool (decide ((0 : Int) < (orI (cmpI x z) (cmpI r y))))))) (hR.step (Gr.refl _) rfl)
 intro ac u w7 hs hd hl ho hR
 have g : Gr w5 w7 := hR.1
 obtain ⟨nb6, e10, nx6, ny6⟩ := hR.get (i := 10) (Y.MP.two (cmpI x z) (cmpI r y)) rfl rfl
 replace F : Fr ac 18 [(0, .agg #[.int .i64 x, .int .i64 y]), (1, .agg #[.int .i64 z, .int .i64 r]), (2, .pointer (some ⟨w.heap.size, 0, none⟩)), (3, .pointer (some ⟨w3.heap.size, 0, none⟩)), (4, .bool (decide ((0 : Int) < (orI (cmpI x z) (cmpI r y)))))] := X.fr hs hd hl _ (by kernel_rfl)
 replace F : Fr ac 18 [(0, .agg #[.int .i64 x, .int .i64 y]), (1, .agg #[.int .i64 z, .int .i64 r]), (2, .pointer (some ⟨w.heap.size, 0, none⟩)), (3, .pointer (some ⟨w3.heap.size, 0, none⟩)), (4, .bool (decide ((0 : Int) < (orI (cmpI x z) (cmpI r y)))))] := F.sub _
 clear e10
 clear hs hd hl ho hR
 replace G := G.trans g
 replace hC := hC.gr g
 clear g
 refine X.thenN ?_
 refine Y.ret ?_
 exact Y.ret0 (v := .bool (decide ((0 : Int) < (orI (cmpI x z) (cmpI r y))))) F (Y.rs1 F rfl (by kernel_rfl)) ⟨rfl, G⟩
end
end Go.Proofs.Ytoalamakhjbedaa
