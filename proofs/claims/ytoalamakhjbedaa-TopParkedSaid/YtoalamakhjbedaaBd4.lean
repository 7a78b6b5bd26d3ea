/- Several texts of this claim in one file. (1) Contract: wake. (2) Contract: better. (3) Contract: stay. -/
import Derived.Test.YtoalamakhjbedaaBd3
namespace Go.Proofs.Ytoalamakhjbedaa
set_option linter.unusedSimpArgs false
set_option linter.unusedVariables false
section
open Go.RowKit

set_option maxRecDepth 100000 in
set_option maxHeartbeats 1000000 in
theorem wake_any (bq bm : Nat) (gq : Int) (p : Nd) (t x : Int) (w : World) (hq : Pq w bq gq p.aw p.za p.bu p.re p.hold p.T bm) (h : NdOk p) (ht : 0 ≤ t ∧ t ≤ 100000) (hx : 0 ≤ x ∧ x ≤ 100000) :
  Calls Try.prog 61 #[Vp bq, .agg #[Vi t, Vi x]] w fun e w' => e = .returned (if refV p t x = 0 then .tuple #[.agg #[Vi t, Vi x], .agg #[Vi 0, Vi 0], .bool false] else .tuple #[.agg #[Vi (t + 1 + ((wkN p t : Nat) : Int)), Vi (wkV p t (refV p t x) (wkN p t)).1], .agg #[Vi (wkV p t (refV p t x) (wkN p t)).2, Vi 1], .bool true]) ∧ Gr w w' := by
 have G := Gr.refl w
 have hC : RCells w (PqC bq gq p.aw p.za p.bu p.re p.hold p.T bm) := hq
 have hbq := hq.lt
 have ha0 := h.a0
 have ha1 := h.a1
 have ha2 := h.a2
 have hb0 := h.b0
 have hb1 := h.b1
 have hr0 := h.r0
 have hr1 := h.r1
 have hh0 := h.h0
 have hh1 := h.h1
 have ht0_ := h.t0
 have ht1_ := h.t1
 refine Y.calls 88 Try.func61 rfl rfl ?_
 intro ac F0
 have F : Fr ac 88 [(0, Vp bq), (1, .agg #[Vi t, Vi x])] := F0.sub _
 clear F0
 refine Y.seq ?_
 refine Y.lit (by kernel_rfl) ?_
 refine Y.pv F (X.box rfl (F.e 1 rfl) X.bx) ?_;clear F ac;intro ac F
 have hq3 : bq < w.heap.size := lt_cell (hC.at 0 rfl)
 have g := Gr.alloc w (.cells #[Vi t, Vi x] 72)
 have hb := heap_alloc_new w (.cells #[Vi t, Vi x] 72)
 have hbl : w.heap.size < (w.alloc (.cells #[Vi t, Vi x] 72)).heap.size := by simp
 have hC2 : RCells (w.alloc (.cells #[Vi t, Vi x] 72)) [(Ad bq 0, Vi gq), (Ad bq 1, Vi p.aw), (Ad bq 2, Vi p.za), (Ad bq 3, Vi p.bu), (Ad bq 4, Vi p.re), (Ad bq 5, Vi p.hold), (Ad bq 6, Vi p.T), (Ad bq 7, .map (some bm)), (Ad w.heap.size 0, Vi t), (Ad w.heap.size 1, Vi x)] := hC.box (b := w.heap.size) #[Vi t, Vi x] 72 rfl
 generalize w.alloc (.cells #[Vi t, Vi x] 72) = w4 at *
 replace G := G.trans g
 replace hC := hC2
 clear hC2
 replace hq := hq.gr g
 clear g hb hbl
 refine Y.pv F (Y.al rfl (Try.new72 _)) ?_;clear F ac;intro ac F
 have hgshV5 := G.size
 have hq6 : bq < w4.heap.size := lt_cell (hC.at 0 rfl)
 have hq7 : w.heap.size < w4.heap.size := lt_cell (hC.at 8 rfl)
 have g := Gr.alloc w4 (.cells #[Vi 0, Vi 0] 72)
 have hb := heap_alloc_new w4 (.cells #[Vi 0, Vi 0] 72)
 have hbl : w4.heap.size < (w4.alloc (.cells #[Vi 0, Vi 0] 72)).heap.size := by simp
 generalize w4.alloc (.cells #[Vi 0, Vi 0] 72) = w8 at *
 replace G := G.trans g
 replace hC := hC.gr g
 replace hq := hq.gr g
 have hV5 := ownP_2 hb
 clear g hb hbl
 refine Y.pv F (Y.al rfl (Try.new69 _)) ?_;clear F ac;intro ac F
 have hgshV9 := G.size
 have hq10 : w4.heap.size < w8.heap.size := hV5.lt
 have hq11 : bq < w8.heap.size := lt_cell (hC.at 0 rfl)
 have hq12 : w.heap.size < w8.heap.size := lt_cell (hC.at 8 rfl)
 have g := Gr.alloc w8 (.cells #[Vi 0, Vi 0] 69)
 have hb := heap_alloc_new w8 (.cells #[Vi 0, Vi 0] 69)
 have hbl : w8.heap.size < (w8.alloc (.cells #[Vi 0, Vi 0] 69)).heap.size := by simp
 generalize w8.alloc (.cells #[Vi 0, Vi 0] 69) = w13 at *
 replace G := G.trans g
 replace hC := hC.gr g
 replace hq := hq.gr g
 replace hV5 := hV5.gr g
 have hV9 := ownP_2 hb
 clear g hb hbl
 refine Y.pv F (X.assign rfl (X.kc (.bool false) rfl)) ?_;clear F ac;intro ac F
 refine Y.nil ?_
 replace F : Fr ac 88 [(0, Vp bq), (1, .agg #[Vi t, Vi x]), (3, Vp w.heap.size), (4, Vp w4.heap.size), (5, Vp w8.heap.size), (6, .bool false)] := F.sub _
 refine X.thenN ?_
 refine Y.seq ?_
 refine Y.lit (by kernel_rfl) ?_
 refine Y.pv F (X.move rfl (F.e 0 rfl)) ?_;clear F ac;intro ac F
 refine Y.pv F (X.load rfl (F.e 3 rfl) (X.ldN (Try.agg72 _) (Try.siz72 _) (Y.atz (⟨w.heap.size, 0, none⟩) (Y.AtFrom.cons (hC.at 8 rfl) (Y.AtFrom.cons (hC.at 9 rfl) (Y.AtFrom.nil _ _ _)))))) ?_;clear F ac;intro ac F
 refine Y.pcall F (X.w0 rfl) rfl (X.enter (F := 77) rfl (X.kc (.func (.func 77) #[] #[]) rfl) (X.a2 (F.e 9 rfl) (F.e 10 rfl)) (enters_of Try.func77 (by kernel_rfl) rfl _)) (refilled_any bq bm gq p t x w13 hq h (by omega) (by omega)) ?_
 clear F ac
 rintro e w14 ⟨rfl, g⟩
 refine ⟨_, rfl, ?_⟩
 intro ac F
 replace G := G.trans g
 replace hC := hC.gr g
 replace hq := hq.gr g
 replace hV5 := hV5.gr g
 replace hV9 := hV9.gr g
 clear g
 refine Y.pv F (X.assign rfl (F.e 11 rfl)) ?_;clear F ac;intro ac F
 refine Y.nil ?_
 replace F : Fr ac 88 [(0, Vp bq), (1, .agg #[Vi t, Vi x]), (3, Vp w.heap.size), (4, Vp w4.heap.size), (5, Vp w8.heap.size), (6, .bool false), (7, Vi (refV p t x))] := F.sub _
 refine X.thenN ?_
 refine Y.seq ?_
 refine Y.seq ?_
 refine Y.lit (by kernel_rfl) ?_
 refine Y.pv F (X.move rfl (F.e 7 rfl)) ?_;clear F ac;intro ac F
 refine Y.pv F (X.binop rfl (F.e 12 rfl) (X.kc (Vi 0) rfl) (X.eqlI Try.underlying3 rfl)) ?_;clear F ac;intro ac F
 refine Y.nil ?_
 replace F : Fr ac 88 [(0, Vp bq), (1, .agg #[Vi t, Vi x]), (3, Vp w.heap.size), (4, Vp w4.heap.size), (5, Vp w8.heap.size), (6, .bool false), (7, Vi (refV p t x)), (13, .bool ((refV p t x : Int) == 0))] := F.sub _
 refine X.thenN ?_
 cases h15 : ((refV p t x : Int) == 0) with
 | false =>
  try rw [h15] at F
  have h15p : ¬ (refV p t x : Int) = 0 := by simpa using h15
  have hwk : ¬ refV p t x = 0 := h15p
  have hrb := refV_nn h (t := t) hx.1 hx.2
  refine Y.condF (F.e 13 rfl) ?_
  refine Y.skip ?_
  refine X.thenN ?_
  refine Y.seq ?_
  refine Y.lit (by kernel_rfl) ?_
  refine Y.pv F (X.field rfl (F.e 3 rfl) (X.fld Try.underlying72 rfl (Try.siz3 _) rfl rfl)) ?_;clear F ac;intro ac F
  refine Y.pv F (X.load rfl (F.e 16 rfl) (X.ld1 (Try.agg3 _) (hC.at 8 rfl))) ?_;clear F ac;intro ac F
  refine Y.pv F (X.binop rfl (F.e 17 rfl) (X.kc (Vi 1) rfl) (X.addI Try.underlying3 rfl (by omega) (by omega))) ?_;clear F ac;intro ac F
  refine Y.pv F (X.move rfl (F.e 7 rfl)) ?_;clear F ac;intro ac F
  refine Y.pv F (X.binop rfl (F.e 19 rfl) (X.kc (Vi 1) rfl) (X.subI Try.underlying3 rfl (by omega) (by omega))) ?_;clear F ac;intro ac F
  refine Y.pv F (Y.bd rfl (Y.bd2 (F.e 18 rfl) (F.e 20 rfl)) (Try.bd72 _ _ _)) ?_;clear F ac;intro ac F
  obtain ⟨w16, hrun, hS2, hon⟩ := hV5.st2 (P := Try.prog) (t := 72) (x := Vi ((t : Int) + 1)) (y := Vi ((refV p t x : Int) - 1)) (fun W => Try.siz72 W) rfl rfl
  refine Y.punit F (X.w0 rfl) rfl (X.store rfl (F.e 4 rfl) (F.e 21 rfl) hrun) ?_
  clear F ac hrun
  intro ac F
  replace G := Y.Only.up G hon (by omega)
  replace hq := hq.only hon (by show ¬ _ = _; omega)
  replace hV9 := hV9.only hon (by show ¬ _ = _; omega)
  replace hC := (hC.kc hon 0 rfl (hC.kc hon 1 rfl (hC.kc hon 2 rfl (hC.kc hon 3 rfl (hC.kc hon 4 rfl (hC.kc hon 5 rfl (hC.kc hon 6 rfl (hC.kc hon 7 rfl (hC.kc hon 8 rfl (hC.kc hon 9 rfl (RCells.nil _)))))))))))
  replace hV5 := hS2
  clear hS2 hon
  refine Y.nil ?_
  replace F : Fr ac 88 [(0, Vp bq), (1, .agg #[Vi t, Vi x]), (3, Vp w.heap.size), (4, Vp w4.heap.size), (5, Vp w8.heap.size), (6, .bool false), (7, Vi (refV p t x)), (13, .bool false)] := F.sub _
  refine X.thenN ?_
  refine Y.seq ?_
  refine Y.lit (by kernel_rfl) ?_
  refine Y.pv F (X.move rfl (F.e 0 rfl)) ?_;clear F ac;intro ac F
  refine Y.pv F (Y.nilC rfl (F.e 22 rfl)) ?_;clear F ac;intro ac F
  refine Y.pv F (X.field rfl (F.e 23 rfl) (X.fld Try.underlying110 rfl (Try.siz31 _) rfl rfl)) ?_;clear F ac;intro ac F
  refine Y.pv F (X.field rfl (F.e 24 rfl) (X.fld Try.underlying31 rfl (Try.siz3 _) rfl rfl)) ?_;clear F ac;intro ac F
  refine Y.pv F (X.load rfl (F.e 25 rfl) (X.ld1 (Try.agg3 _) (hC.at 1 rfl))) ?_;clear F ac;intro ac F
  refine Y.pv F (Y.bd rfl (Y.bd2 (F.e 26 rfl) (X.kc (Vi 1) rfl)) (Try.bd69 _ _ _)) ?_;clear F ac;intro ac F
  obtain ⟨w17, hrun, hS2, hon⟩ := hV9.st2 (P := Try.prog) (t := 69) (x := Vi p.aw) (y := Vi 1) (fun W => Try.siz69 W) rfl rfl
  refine Y.punit F (X.w0 rfl) rfl (X.store rfl (F.e 5 rfl) (F.e 27 rfl) hrun) ?_
  clear F ac hrun
  intro ac F
  replace G := Y.Only.up G hon (by omega)
  replace hq := hq.only hon (by show ¬ _ = _; omega)
  replace hV5 := hV5.only hon (by show ¬ _ = _; omega)
  replace hC := (hC.kc hon 0 rfl (hC.kc hon 1 rfl (hC.kc hon 2 rfl (hC.kc hon 3 rfl (hC.kc hon 4 rfl (hC.kc hon 5 rfl (hC.kc hon 6 rfl (hC.kc hon 7 rfl (hC.kc hon 8 rfl (hC.kc hon 9 rfl (RCells.nil _)))))))))))
  replace hV9 := hS2
  clear hS2 hon
  refine Y.nil ?_
  replace F : Fr ac 88 [(0, Vp bq), (1, .agg #[Vi t, Vi x]), (3, Vp w.heap.size), (4, Vp w4.heap.size), (5, Vp w8.heap.size), (6, .bool false), (7, Vi (refV p t x)), (13, .bool false)] := F.sub _
  refine X.thenN ?_
  refine Y.seq ?_
  refine Y.seq ?_
  refine Y.lit (by kernel_rfl) ?_
  refine Y.pv F (X.field rfl (F.e 3 rfl) (X.fld Try.underlying72 rfl (Try.siz3 _) rfl rfl)) ?_;clear F ac;intro ac F
  refine Y.pv F (X.load rfl (F.e 28 rfl) (X.ld1 (Try.agg3 _) (hC.at 8 rfl))) ?_;clear F ac;intro ac F
  refine Y.pv F (X.binop rfl (F.e 29 rfl) (X.kc (Vi 1) rfl) (X.addI Try.underlying3 rfl (by omega) (by omega))) ?_;clear F ac;intro ac F
  refine Y.pv F (X.assign rfl (F.e 30 rfl)) ?_;clear F ac;intro ac F
  refine Y.nil ?_
  replace F : Fr ac 88 [(0, Vp bq), (1, .agg #[Vi t, Vi x]), (3, Vp w.heap.size), (4, Vp w4.heap.size), (5, Vp w8.heap.size), (6, .bool false), (7, Vi (refV p t x)), (8, Vi ((t : Int) + 1)), (13, .bool false)] := F.sub _
  refine X.thenN ?_
  refine Y.block ?_
  have e0_ : (t : Int) + 1 + ((0 : Nat) : Int) = t + 1 := by omega
  refine Y.loop (fun me_ ac wr => ∃ (q : Nat), me_ = p.hold.toNat + 1 - q ∧ (q : Int) ≤ wkN p t ∧ Only (fun b => b = w4.heap.size ∨ b = w8.heap.size) w17 wr ∧ OwnP wr (w4.heap.size) 2 (VL [Vi (t + 1 + (q : Nat)), Vi (wkV p t (refV p t x) q).1]) ∧ OwnP wr (w8.heap.size) 2 (VL [Vi (wkV p t (refV p t x) q).2, Vi 1]) ∧ Fr ac 88 [(0, Vp bq), (1, .agg #[Vi t, Vi x]), (3, Vp w.heap.size), (4, Vp w4.heap.size), (5, Vp w8.heap.size), (6, .bool false), (7, Vi (refV p t x)), (8, Vi ((t : Int) + 1 + (q : Nat))), (13, .bool false)]) _ ⟨0, rfl, by omega, Only.refl _ _, by rw [e0_]; exact hV5, hV9, by rw [e0_]; exact F.sub _⟩ ?_
  have hqs := hq
  have hCs := hC
  have Gs := G
  clear F hq hC G hV5 hV9 ac e0_
  intro me_ ac w18 hI_
  obtain ⟨q, rfl, hqn, hon, hV4, hV5, F⟩ := hI_
  have G : Gr w w18 := ((Gs.only (fun b => w.heap.size ≤ b)).trans (hon.mono' (fun i e => by omega))).gr (fun i hi e => by omega)
  have hq := hqs.only hon (by show ¬ (bq = w4.heap.size ∨ bq = w8.heap.size); omega)
  have hC := (RCells.cons (hon.cell (hCs.at 0 rfl) (by show ¬ (bq = w4.heap.size ∨ bq = w8.heap.size); omega)) (RCells.cons (hon.cell (hCs.at 1 rfl) (by show ¬ (bq = w4.heap.size ∨ bq = w8.heap.size); omega)) (RCells.cons (hon.cell (hCs.at 2 rfl) (by show ¬ (bq = w4.heap.size ∨ bq = w8.heap.size); omega)) (RCells.cons (hon.cell (hCs.at 3 rfl) (by show ¬ (bq = w4.heap.size ∨ bq = w8.heap.size); omega)) (RCells.cons (hon.cell (hCs.at 4 rfl) (by show ¬ (bq = w4.heap.size ∨ bq = w8.heap.size); omega)) (RCells.cons (hon.cell (hCs.at 5 rfl) (by show ¬ (bq = w4.heap.size ∨ bq = w8.heap.size); omega)) (RCells.cons (hon.cell (hCs.at 6 rfl) (by show ¬ (bq = w4.heap.size ∨ bq = w8.heap.size); omega)) (RCells.cons (hon.cell (hCs.at 7 rfl) (by show ¬ (bq = w4.heap.size ∨ bq = w8.heap.size); omega)) (RCells.cons (hon.cell (hCs.at 8 rfl) (by show ¬ (w.heap.size = w4.heap.size ∨ w.heap.size = w8.heap.size); omega)) (RCells.cons (hon.cell (hCs.at 9 rfl) (by show ¬ (w.heap.size = w4.heap.size ∨ w.heap.size = w8.heap.size); omega)) (RCells.nil _)))))))))))
  have hb4 : w4.heap.size < w18.heap.size := hV4.lt
  have hb5 : w8.heap.size < w18.heap.size := hV5.lt
  have hwb := wkV_bd2 h (t := t) (a := refV p t x) (by omega) hrb.2 q
  have hnb := wkN_hold hh0 t
  have hI := hon
  clear hon
  refine Y.seq ?_
  refine Y.seq ?_
  cases h19 : decide (((t : Int) + 1 + (q : Nat) : Int) ≤ ((t : Int) + p.hold)) with
  | false =>
   try rw [h19] at F
   have h19p : ¬ (((t : Int) + 1 + (q : Nat) : Int) ≤ ((t : Int) + p.hold)) := of_decide_eq_false h19
   have hkN := wkN_eq hh0 hqn (.inl h19p)
   refine Y.region F [some (Vi ((t : Int) + 1 + (q : Nat))), some (Vp w.heap.size), some (Vi t), some (Vp bq), some (Vp bq), some (.pointer (some ⟨bq, 5, none⟩)), some (Vi p.hold), some (Vi ((t : Int) + p.hold)), some (.bool false), some (.bool false), none, none, none, none, none, none, some (.bool false)] [] rfl ⟨by kernel_rfl, of_decide_eq_true (by kernel_rfl), by kernel_rfl, by kernel_rfl, by kernel_rfl⟩ ⟨?_, ?_, ?_, ?_, ?_, ?_, ?_, ?_, ?_, ?_, ?_, ?_, ?_, ?_, ?_, ?_, ?_, trivial⟩ ?_
   ·intro ac done u W Sx hR
    exact X.vl (X.move rfl (Sx.ev 8 (Vi ((t : Int) + 1 + (q : Nat))))) hR.st0
   ·intro ac done u W Sx hR
    exact X.vl (X.field rfl (Sx.ev 3 (Vp w.heap.size)) (X.fld Try.underlying72 rfl (Try.siz3 _) rfl rfl)) hR.st0
   ·intro ac done u W Sx hR
    have g : Gr w18 W := hR.1
    exact X.vl (X.load rfl (Sx.ev 32 (Vp w.heap.size)) (X.ld1 (Try.agg3 _) ((hC.gr g).at 8 rfl))) hR.st0
   ·intro ac done u W Sx hR
    exact X.vl (X.move rfl (Sx.ev 0 (Vp bq))) hR.st0
   ·intro ac done u W Sx hR
    exact X.vl (Y.nilC rfl (Sx.ev 34 (Vp bq))) hR.st0
   ·intro ac done u W Sx hR
    exact X.vl (X.field rfl (Sx.ev 35 (Vp bq)) (X.fld Try.underlying110 rfl (Try.siz3 _) rfl rfl)) hR.st0
   ·intro ac done u W Sx hR
    have g : Gr w18 W := hR.1
    exact X.vl (X.load rfl (Sx.ev 36 (.pointer (some ⟨bq, 5, none⟩))) (X.ld1 (Try.agg3 _) ((hC.gr g).at 5 rfl))) hR.st0
   ·intro ac done u W Sx hR
    exact X.vl (X.binop rfl (Sx.ev 33 (Vi t)) (Sx.ev 37 (Vi p.hold)) (X.addI Try.underlying3 rfl (by omega) (by omega))) hR.st0
   ·intro ac done u W Sx hR
    exact X.vl (X.binop rfl (Sx.ev 31 (Vi ((t : Int) + 1 + (q : Nat)))) (Sx.ev 38 (Vi ((t : Int) + p.hold))) (X.leqI Try.underlying3 h19)) hR.st0
   ·intro ac done u W Sx hR
    exact X.vl (X.move rfl (Sx.ev 39 (.bool false))) hR.st0
   ·intro ac done u W Sx hR
    exact X.skip (X.w2 rfl (Sx.yl 9 40 false (by kernel_rfl) rfl rfl) rfl) rfl (hR.skip rfl)
   ·intro ac done u W Sx hR
    exact X.skip (X.w2 rfl (Sx.yl 9 40 false (by kernel_rfl) rfl rfl) rfl) rfl (hR.skip rfl)
   ·intro ac done u W Sx hR
    exact X.skip (X.w2 rfl (Sx.yl 9 40 false (by kernel_rfl) rfl rfl) rfl) rfl (hR.skip rfl)
   ·intro ac done u W Sx hR
    exact X.skip (X.w2 rfl (Sx.yl 9 40 false (by kernel_rfl) rfl rfl) rfl) rfl (hR.skip rfl)
   ·intro ac done u W Sx hR
    exact X.skip (X.w2 rfl (Sx.yl 9 40 false (by kernel_rfl) rfl rfl) rfl) rfl (hR.skip rfl)
   ·intro ac done u W Sx hR
    exact X.skip (X.w2 rfl (Sx.yl 9 40 false (by kernel_rfl) rfl rfl) rfl) rfl (hR.skip rfl)
   ·intro ac done u W Sx hR
    exact X.vl (X.pickF rfl (Sx.ev 40 (.bool false)) (X.kc (.bool false) rfl)) hR.st0
   intro ac u w20 hs hd hl ho hR
   have g : Gr w18 w20 := hR.1
   replace F : Fr ac 88 [(0, Vp bq), (1, .agg #[Vi t, Vi x]), (3, Vp w.heap.size), (4, Vp w4.heap.size), (5, Vp w8.heap.size), (6, .bool false), (7, Vi (refV p t x)), (8, Vi ((t : Int) + 1 + (q : Nat))), (13, .bool false), (47, .bool false)] := X.fr hs hd hl _ (by kernel_rfl)
   clear hs hd hl ho hR
   replace G := G.trans g
   replace hC := hC.gr g
   replace hI := hI.thenGr g
   replace hq := hq.gr g
   replace hV4 := hV4.gr g
   replace hV5 := hV5.gr g
   clear g
   refine X.thenN ?_
   refine Y.condF (F.e 47 rfl) ?_
   refine Y.exit ?_
   refine X.thenX ?_
   refine X.thenX ?_
   refine X.blockX ?_
   refine X.thenN ?_
   refine Y.seq ?_
   replace hC : RCells w20 [(Ad bq 0, Vi gq), (Ad bq 1, Vi p.aw), (Ad bq 2, Vi p.za), (Ad bq 3, Vi p.bu), (Ad bq 4, Vi p.re), (Ad bq 5, Vi p.hold), (Ad bq 6, Vi p.T), (Ad bq 7, .map (some bm)), (Ad w.heap.size 0, Vi t), (Ad w.heap.size 1, Vi x), (Ad w4.heap.size 0, Vi (t + 1 + (q : Nat)))] := hC.append ((RCells.cons (hV4.cell (k := 0) (by decide)) (RCells.nil _)))
   replace hC : RCells w20 [(Ad bq 0, Vi gq), (Ad bq 1, Vi p.aw), (Ad bq 2, Vi p.za), (Ad bq 3, Vi p.bu), (Ad bq 4, Vi p.re), (Ad bq 5, Vi p.hold), (Ad bq 6, Vi p.T), (Ad bq 7, .map (some bm)), (Ad w.heap.size 0, Vi t), (Ad w.heap.size 1, Vi x), (Ad w4.heap.size 0, Vi (t + 1 + (q : Nat))), (Ad w4.heap.size 1, Vi ((wkV p t (refV p t x) q).1))] := hC.append ((RCells.cons (hV4.cell (k := 1) (by decide)) (RCells.nil _)))
   replace hC : RCells w20 [(Ad bq 0, Vi gq), (Ad bq 1, Vi p.aw), (Ad bq 2, Vi p.za), (Ad bq 3, Vi p.bu), (Ad bq 4, Vi p.re), (Ad bq 5, Vi p.hold), (Ad bq 6, Vi p.T), (Ad bq 7, .map (some bm)), (Ad w.heap.size 0, Vi t), (Ad w.heap.size 1, Vi x), (Ad w4.heap.size 0, Vi (t + 1 + (q : Nat))), (Ad w4.heap.size 1, Vi ((wkV p t (refV p t x) q).1)), (Ad w8.heap.size 0, Vi ((wkV p t (refV p t x) q).2))] := hC.append ((RCells.cons (hV5.cell (k := 0) (by decide)) (RCells.nil _)))
   replace hC : RCells w20 [(Ad bq 0, Vi gq), (Ad bq 1, Vi p.aw), (Ad bq 2, Vi p.za), (Ad bq 3, Vi p.bu), (Ad bq 4, Vi p.re), (Ad bq 5, Vi p.hold), (Ad bq 6, Vi p.T), (Ad bq 7, .map (some bm)), (Ad w.heap.size 0, Vi t), (Ad w.heap.size 1, Vi x), (Ad w4.heap.size 0, Vi (t + 1 + (q : Nat))), (Ad w4.heap.size 1, Vi ((wkV p t (refV p t x) q).1)), (Ad w8.heap.size 0, Vi ((wkV p t (refV p t x) q).2)), (Ad w8.heap.size 1, Vi 1)] := hC.append ((RCells.cons (hV5.cell (k := 1) (by decide)) (RCells.nil _)))
   refine region_xi F [some (.agg #[Vi (t + 1 + (q : Nat)), Vi ((wkV p t (refV p t x) q).1)]), some (.agg #[Vi ((wkV p t (refV p t x) q).2), Vi 1]), none, none, some (.bool true)] (RT2 w20 (w4.heap.size) 2 (w8.heap.size) 3 (VL [Vi (t + 1 + (q : Nat)), Vi ((wkV p t (refV p t x) q).1)]) (VL [Vi (t + 1 + (q : Nat)), Vi ((wkV p t (refV p t x) q).1)]) (VL [Vi ((wkV p t (refV p t x) q).2), Vi 1]) (VL [Vi ((wkV p t (refV p t x) q).2), Vi 1])) rfl ⟨by kernel_rfl, of_decide_eq_true (by kernel_rfl), by kernel_rfl, by kernel_rfl, by kernel_rfl⟩ (fun _ => ⟨RT2.start (Gr.refl _) hV4 hV5, RT2.start (Gr.drew _) hV4 hV5⟩) ⟨?_, ?_, ?_, ?_, ?_, trivial⟩ ?_
   ·intro ac done u W Sx hR
    exact X.vl (X.load rfl (Sx.ev 4 (Vp w4.heap.size)) (X.ldN (Try.agg72 _) (Try.siz72 _) (Y.atz (⟨w4.heap.size, 0, none⟩) (Y.AtFrom.cons ((hR.p1 (Sx.no 2 (by kernel_rfl))).cell (k := 0) (by decide)) (Y.AtFrom.cons ((hR.p1 (Sx.no 2 (by kernel_rfl))).cell (k := 1) (by decide)) (Y.AtFrom.nil _ _ _)))))) (hR.quiet (by decide))
   ·intro ac done u W Sx hR
    exact X.vl (X.load rfl (Sx.ev 5 (Vp w8.heap.size)) (X.ldN (Try.agg69 _) (Try.siz69 _) (Y.atz (⟨w8.heap.size, 0, none⟩) (Y.AtFrom.cons ((hR.p2 (Sx.no 3 (by kernel_rfl))).cell (k := 0) (by decide)) (Y.AtFrom.cons ((hR.p2 (Sx.no 3 (by kernel_rfl))).cell (k := 1) (by decide)) (Y.AtFrom.nil _ _ _)))))) (hR.quiet (by decide))
   ·intro ac done u W Sx hR
    obtain ⟨W2, hrun, hS2, hon⟩ := (hR.p1 Sx.nd).st2 (P := Try.prog) (t := 72) (x := Vi (t + 1 + (q : Nat))) (y := Vi ((wkV p t (refV p t x) q).1)) (fun W => Try.siz72 W) rfl rfl
    exact X.unit (X.w0 rfl) rfl (X.store rfl (Sx.ev 4 (Vp w4.heap.size)) (Sx.ev 86 (.agg #[Vi (t + 1 + (q : Nat)), Vi ((wkV p t (refV p t x) q).1)])) hrun) (hR.st1 (by decide) (by omega) hS2 hon)
   ·intro ac done u W Sx hR
    obtain ⟨W2, hrun, hS2, hon⟩ := (hR.p2 Sx.nd).st2 (P := Try.prog) (t := 69) (x := Vi ((wkV p t (refV p t x) q).2)) (y := Vi 1) (fun W => Try.siz69 W) rfl rfl
    exact X.unit (X.w0 rfl) rfl (X.store rfl (Sx.ev 5 (Vp w8.heap.size)) (Sx.ev 87 (.agg #[Vi ((wkV p t (refV p t x) q).2), Vi 1])) hrun) (hR.st2 (by decide) (by omega) hS2 hon)
   ·intro ac done u W Sx hR
    exact X.vl (X.assign rfl (X.kc (.bool true) rfl)) (hR.quiet (by decide))
   rintro ac u w21 hs hd hl_ ho hR
   replace F : Fr ac 88 [(0, Vp bq), (1, .agg #[Vi t, Vi x]), (3, Vp w.heap.size), (4, Vp w4.heap.size), (5, Vp w8.heap.size), (6, .bool true), (7, Vi (refV p t x)), (8, Vi ((t : Int) + 1 + (q : Nat))), (13, .bool false), (47, .bool false)] := X.fr hs hd hl_ _ (by kernel_rfl)
   have hon := hR.o
   replace hV4 := hR.q1 rfl
   replace hV5 := hR.q2 rfl
   replace G := ((G.only (fun b => w.heap.size ≤ b)).trans (hon.mono' (fun i e => by omega))).gr (fun i hi e => by omega)
   replace hq := hq.only hon (by show ¬ (bq = w4.heap.size ∨ bq = w8.heap.size); omega)
   replace hC := (RCells.cons (hon.cell (hC.at 0 rfl) (by show ¬ (bq = w4.heap.size ∨ bq = w8.heap.size); omega)) (RCells.cons (hon.cell (hC.at 1 rfl) (by show ¬ (bq = w4.heap.size ∨ bq = w8.heap.size); omega)) (RCells.cons (hon.cell (hC.at 2 rfl) (by show ¬ (bq = w4.heap.size ∨ bq = w8.heap.size); omega)) (RCells.cons (hon.cell (hC.at 3 rfl) (by show ¬ (bq = w4.heap.size ∨ bq = w8.heap.size); omega)) (RCells.cons (hon.cell (hC.at 4 rfl) (by show ¬ (bq = w4.heap.size ∨ bq = w8.heap.size); omega)) (RCells.cons (hon.cell (hC.at 5 rfl) (by show ¬ (bq = w4.heap.size ∨ bq = w8.heap.size); omega)) (RCells.cons (hon.cell (hC.at 6 rfl) (by show ¬ (bq = w4.heap.size ∨ bq = w8.heap.size); omega)) (RCells.cons (hon.cell (hC.at 7 rfl) (by show ¬ (bq = w4.heap.size ∨ bq = w8.heap.size); omega)) (RCells.cons (hon.cell (hC.at 8 rfl) (by show ¬ (w.heap.size = w4.heap.size ∨ w.heap.size = w8.heap.size); omega)) (RCells.cons (hon.cell (hC.at 9 rfl) (by show ¬ (w.heap.size = w4.heap.size ∨ w.heap.size = w8.heap.size); omega)) (RCells.nil _)))))))))))
   replace hI := hI.trans hon
   clear hs hd hl_ ho hR hon
   refine X.thenN ?_
   refine Y.ret ?_
   exact Y.ret0 (v := .tuple #[.agg #[Vi (t + 1 + (q : Nat)), Vi ((wkV p t (refV p t x) q).1)], .agg #[Vi ((wkV p t (refV p t x) q).2), Vi 1], .bool true]) F (Y.rcc3 F rfl (Try.agg72 _) (Try.siz72 _) (Try.agg69 _) (Try.siz69 _) (by kernel_rfl) (by kernel_rfl) (by kernel_rfl) hV4 hV5) ⟨by rw [if_neg hwk, hkN], G⟩
  | true =>
   try rw [h19] at F
   have h19p : (((t : Int) + 1 + (q : Nat) : Int) ≤ ((t : Int) + p.hold)) := of_decide_eq_true h19
   refine Y.region F [some (Vi ((t : Int) + 1 + (q : Nat))), some (Vp w.heap.size), some (Vi t), some (Vp bq), some (Vp bq), some (.pointer (some ⟨bq, 5, none⟩)), some (Vi p.hold), some (Vi ((t : Int) + p.hold)), some (.bool true), some (.bool true), some (Vi ((t : Int) + 1 + (q : Nat))), some (Vp bq), some (Vp bq), some (.pointer (some ⟨bq, 6, none⟩)), some (Vi p.T), some (.bool (decide (((t : Int) + 1 + (q : Nat) : Int) < p.T))), some (.bool (decide (((t : Int) + 1 + (q : Nat) : Int) < p.T)))] [] rfl ⟨by kernel_rfl, of_decide_eq_true (by kernel_rfl), by kernel_rfl, by kernel_rfl, by kernel_rfl⟩ ⟨?_, ?_, ?_, ?_, ?_, ?_, ?_, ?_, ?_, ?_, ?_, ?_, ?_, ?_, ?_, ?_, ?_, trivial⟩ ?_
   ·intro ac done u W Sx hR
    exact X.vl (X.move rfl (Sx.ev 8 (Vi ((t : Int) + 1 + (q : Nat))))) hR.st0
   ·intro ac done u W Sx hR
    exact X.vl (X.field rfl (Sx.ev 3 (Vp w.heap.size)) (X.fld Try.underlying72 rfl (Try.siz3 _) rfl rfl)) hR.st0
   ·intro ac done u W Sx hR
    have g : Gr w18 W := hR.1
    exact X.vl (X.load rfl (Sx.ev 32 (Vp w.heap.size)) (X.ld1 (Try.agg3 _) ((hC.gr g).at 8 rfl))) hR.st0
   ·intro ac done u W Sx hR
    exact X.vl (X.move rfl (Sx.ev 0 (Vp bq))) hR.st0
   ·intro ac done u W Sx hR
    exact X.vl (Y.nilC rfl (Sx.ev 34 (Vp bq))) hR.st0
   ·intro ac done u W Sx hR
    exact X.vl (X.field rfl (Sx.ev 35 (Vp bq)) (X.fld Try.underlying110 rfl (Try.siz3 _) rfl rfl)) hR.st0
   ·intro ac done u W Sx hR
    have g : Gr w18 W := hR.1
    exact X.vl (X.load rfl (Sx.ev 36 (.pointer (some ⟨bq, 5, none⟩))) (X.ld1 (Try.agg3 _) ((hC.gr g).at 5 rfl))) hR.st0
   ·intro ac done u W Sx hR
    exact X.vl (X.binop rfl (Sx.ev 33 (Vi t)) (Sx.ev 37 (Vi p.hold)) (X.addI Try.underlying3 rfl (by omega) (by omega))) hR.st0
   ·intro ac done u W Sx hR
    exact X.vl (X.binop rfl (Sx.ev 31 (Vi ((t : Int) + 1 + (q : Nat)))) (Sx.ev 38 (Vi ((t : Int) + p.hold))) (X.leqI Try.underlying3 h19)) hR.st0
   ·intro ac done u W Sx hR
    exact X.vl (X.move rfl (Sx.ev 39 (.bool true))) hR.st0
   ·intro ac done u W Sx hR
    exact X.val (X.w1 rfl (Sx.yl 9 40 true (by kernel_rfl) rfl rfl)) rfl (X.move rfl (Sx.ev 8 (Vi ((t : Int) + 1 + (q : Nat))))) hR.st0
   ·intro ac done u W Sx hR
    exact X.val (X.w1 rfl (Sx.yl 9 40 true (by kernel_rfl) rfl rfl)) rfl (X.move rfl (Sx.ev 0 (Vp bq))) hR.st0
   ·intro ac done u W Sx hR
    exact X.val (X.w1 rfl (Sx.yl 9 40 true (by kernel_rfl) rfl rfl)) rfl (Y.nilC rfl (Sx.ev 42 (Vp bq))) hR.st0
   ·intro ac done u W Sx hR
    exact X.val (X.w1 rfl (Sx.yl 9 40 true (by kernel_rfl) rfl rfl)) rfl (X.field rfl (Sx.ev 43 (Vp bq)) (X.fld Try.underlying110 rfl (Try.siz3 _) rfl rfl)) hR.st0
   ·intro ac done u W Sx hR
    have g : Gr w18 W := hR.1
    exact X.val (X.w1 rfl (Sx.yl 9 40 true (by kernel_rfl) rfl rfl)) rfl (X.load rfl (Sx.ev 44 (.pointer (some ⟨bq, 6, none⟩))) (X.ld1 (Try.agg3 _) ((hC.gr g).at 6 rfl))) hR.st0
   ·intro ac done u W Sx hR
    exact X.val (X.w1 rfl (Sx.yl 9 40 true (by kernel_rfl) rfl rfl)) rfl (X.binop rfl (Sx.ev 41 (Vi ((t : Int) + 1 + (q : Nat)))) (Sx.ev 45 (Vi p.T)) (X.lssI Try.underlying3 rfl)) hR.st0
   ·intro ac done u W Sx hR
    exact X.vl (X.pickT rfl (Sx.ev 40 (.bool true)) (Sx.ev 46 (.bool (decide (((t : Int) + 1 + (q : Nat) : Int) < p.T))))) hR.st0
   intro ac u w22 hs hd hl ho hR
   have g : Gr w18 w22 := hR.1
   replace F : Fr ac 88 [(0, Vp bq), (1, .agg #[Vi t, Vi x]), (3, Vp w.heap.size), (4, Vp w4.heap.size), (5, Vp w8.heap.size), (6, .bool false), (7, Vi (refV p t x)), (8, Vi ((t : Int) + 1 + (q : Nat))), (13, .bool false), (47, .bool (decide (((t : Int) + 1 + (q : Nat) : Int) < p.T)))] := X.fr hs hd hl _ (by kernel_rfl)
   clear hs hd hl ho hR
   replace G := G.trans g
   replace hC := hC.gr g
   replace hI := hI.thenGr g
   replace hq := hq.gr g
   replace hV4 := hV4.gr g
   replace hV5 := hV5.gr g
   clear g
   refine X.thenN ?_
   cases h23 : decide (((t : Int) + 1 + (q : Nat) : Int) < p.T) with
   | false =>
    try rw [h23] at F
    have h23p : ¬ (((t : Int) + 1 + (q : Nat) : Int) < p.T) := of_decide_eq_false h23
    have hkN := wkN_eq hh0 hqn (.inr h23p)
    refine Y.condF (F.e 47 rfl) ?_
    refine Y.exit ?_
    refine X.thenX ?_
    refine X.thenX ?_
    refine X.blockX ?_
    refine X.thenN ?_
    refine Y.seq ?_
    replace hC : RCells w22 [(Ad bq 0, Vi gq), (Ad bq 1, Vi p.aw), (Ad bq 2, Vi p.za), (Ad bq 3, Vi p.bu), (Ad bq 4, Vi p.re), (Ad bq 5, Vi p.hold), (Ad bq 6, Vi p.T), (Ad bq 7, .map (some bm)), (Ad w.heap.size 0, Vi t), (Ad w.heap.size 1, Vi x), (Ad w4.heap.size 0, Vi (t + 1 + (q : Nat)))] := hC.append ((RCells.cons (hV4.cell (k := 0) (by decide)) (RCells.nil _)))
    replace hC : RCells w22 [(Ad bq 0, Vi gq), (Ad bq 1, Vi p.aw), (Ad bq 2, Vi p.za), (Ad bq 3, Vi p.bu), (Ad bq 4, Vi p.re), (Ad bq 5, Vi p.hold), (Ad bq 6, Vi p.T), (Ad bq 7, .map (some bm)), (Ad w.heap.size 0, Vi t), (Ad w.heap.size 1, Vi x), (Ad w4.heap.size 0, Vi (t + 1 + (q : Nat))), (Ad w4.heap.size 1, Vi ((wkV p t (refV p t x) q).1))] := hC.append ((RCells.cons (hV4.cell (k := 1) (by decide)) (RCells.nil _)))
    replace hC : RCells w22 [(Ad bq 0, Vi gq), (Ad bq 1, Vi p.aw), (Ad bq 2, Vi p.za), (Ad bq 3, Vi p.bu), (Ad bq 4, Vi p.re), (Ad bq 5, Vi p.hold), (Ad bq 6, Vi p.T), (Ad bq 7, .map (some bm)), (Ad w.heap.size 0, Vi t), (Ad w.heap.size 1, Vi x), (Ad w4.heap.size 0, Vi (t + 1 + (q : Nat))), (Ad w4.heap.size 1, Vi ((wkV p t (refV p t x) q).1)), (Ad w8.heap.size 0, Vi ((wkV p t (refV p t x) q).2))] := hC.append ((RCells.cons (hV5.cell (k := 0) (by decide)) (RCells.nil _)))
    replace hC : RCells w22 [(Ad bq 0, Vi gq), (Ad bq 1, Vi p.aw), (Ad bq 2, Vi p.za), (Ad bq 3, Vi p.bu), (Ad bq 4, Vi p.re), (Ad bq 5, Vi p.hold), (Ad bq 6, Vi p.T), (Ad bq 7, .map (some bm)), (Ad w.heap.size 0, Vi t), (Ad w.heap.size 1, Vi x), (Ad w4.heap.size 0, Vi (t + 1 + (q : Nat))), (Ad w4.heap.size 1, Vi ((wkV p t (refV p t x) q).1)), (Ad w8.heap.size 0, Vi ((wkV p t (refV p t x) q).2)), (Ad w8.heap.size 1, Vi 1)] := hC.append ((RCells.cons (hV5.cell (k := 1) (by decide)) (RCells.nil _)))
    refine region_xi F [some (.agg #[Vi (t + 1 + (q : Nat)), Vi ((wkV p t (refV p t x) q).1)]), some (.agg #[Vi ((wkV p t (refV p t x) q).2), Vi 1]), none, none, some (.bool true)] (RT2 w22 (w4.heap.size) 2 (w8.heap.size) 3 (VL [Vi (t + 1 + (q : Nat)), Vi ((wkV p t (refV p t x) q).1)]) (VL [Vi (t + 1 + (q : Nat)), Vi ((wkV p t (refV p t x) q).1)]) (VL [Vi ((wkV p t (refV p t x) q).2), Vi 1]) (VL [Vi ((wkV p t (refV p t x) q).2), Vi 1])) rfl ⟨by kernel_rfl, of_decide_eq_true (by kernel_rfl), by kernel_rfl, by kernel_rfl, by kernel_rfl⟩ (fun _ => ⟨RT2.start (Gr.refl _) hV4 hV5, RT2.start (Gr.drew _) hV4 hV5⟩) ⟨?_, ?_, ?_, ?_, ?_, trivial⟩ ?_
    ·intro ac done u W Sx hR
     exact X.vl (X.load rfl (Sx.ev 4 (Vp w4.heap.size)) (X.ldN (Try.agg72 _) (Try.siz72 _) (Y.atz (⟨w4.heap.size, 0, none⟩) (Y.AtFrom.cons ((hR.p1 (Sx.no 2 (by kernel_rfl))).cell (k := 0) (by decide)) (Y.AtFrom.cons ((hR.p1 (Sx.no 2 (by kernel_rfl))).cell (k := 1) (by decide)) (Y.AtFrom.nil _ _ _)))))) (hR.quiet (by decide))
    ·intro ac done u W Sx hR
     exact X.vl (X.load rfl (Sx.ev 5 (Vp w8.heap.size)) (X.ldN (Try.agg69 _) (Try.siz69 _) (Y.atz (⟨w8.heap.size, 0, none⟩) (Y.AtFrom.cons ((hR.p2 (Sx.no 3 (by kernel_rfl))).cell (k := 0) (by decide)) (Y.AtFrom.cons ((hR.p2 (Sx.no 3 (by kernel_rfl))).cell (k := 1) (by decide)) (Y.AtFrom.nil _ _ _)))))) (hR.quiet (by decide))
    ·intro ac done u W Sx hR
     obtain ⟨W2, hrun, hS2, hon⟩ := (hR.p1 Sx.nd).st2 (P := Try.prog) (t := 72) (x := Vi (t + 1 + (q : Nat))) (y := Vi ((wkV p t (refV p t x) q).1)) (fun W => Try.siz72 W) rfl rfl
     exact X.unit (X.w0 rfl) rfl (X.store rfl (Sx.ev 4 (Vp w4.heap.size)) (Sx.ev 86 (.agg #[Vi (t + 1 + (q : Nat)), Vi ((wkV p t (refV p t x) q).1)])) hrun) (hR.st1 (by decide) (by omega) hS2 hon)
    ·intro ac done u W Sx hR
     obtain ⟨W2, hrun, hS2, hon⟩ := (hR.p2 Sx.nd).st2 (P := Try.prog) (t := 69) (x := Vi ((wkV p t (refV p t x) q).2)) (y := Vi 1) (fun W => Try.siz69 W) rfl rfl
     exact X.unit (X.w0 rfl) rfl (X.store rfl (Sx.ev 5 (Vp w8.heap.size)) (Sx.ev 87 (.agg #[Vi ((wkV p t (refV p t x) q).2), Vi 1])) hrun) (hR.st2 (by decide) (by omega) hS2 hon)
    ·intro ac done u W Sx hR
     exact X.vl (X.assign rfl (X.kc (.bool true) rfl)) (hR.quiet (by decide))
    rintro ac u w24 hs hd hl_ ho hR
    replace F : Fr ac 88 [(0, Vp bq), (1, .agg #[Vi t, Vi x]), (3, Vp w.heap.size), (4, Vp w4.heap.size), (5, Vp w8.heap.size), (6, .bool true), (7, Vi (refV p t x)), (8, Vi ((t : Int) + 1 + (q : Nat))), (13, .bool false), (47, .bool false)] := X.fr hs hd hl_ _ (by kernel_rfl)
    have hon := hR.o
    replace hV4 := hR.q1 rfl
    replace hV5 := hR.q2 rfl
    replace G := ((G.only (fun b => w.heap.size ≤ b)).trans (hon.mono' (fun i e => by omega))).gr (fun i hi e => by omega)
    replace hq := hq.only hon (by show ¬ (bq = w4.heap.size ∨ bq = w8.heap.size); omega)
    replace hC := (RCells.cons (hon.cell (hC.at 0 rfl) (by show ¬ (bq = w4.heap.size ∨ bq = w8.heap.size); omega)) (RCells.cons (hon.cell (hC.at 1 rfl) (by show ¬ (bq = w4.heap.size ∨ bq = w8.heap.size); omega)) (RCells.cons (hon.cell (hC.at 2 rfl) (by show ¬ (bq = w4.heap.size ∨ bq = w8.heap.size); omega)) (RCells.cons (hon.cell (hC.at 3 rfl) (by show ¬ (bq = w4.heap.size ∨ bq = w8.heap.size); omega)) (RCells.cons (hon.cell (hC.at 4 rfl) (by show ¬ (bq = w4.heap.size ∨ bq = w8.heap.size); omega)) (RCells.cons (hon.cell (hC.at 5 rfl) (by show ¬ (bq = w4.heap.size ∨ bq = w8.heap.size); omega)) (RCells.cons (hon.cell (hC.at 6 rfl) (by show ¬ (bq = w4.heap.size ∨ bq = w8.heap.size); omega)) (RCells.cons (hon.cell (hC.at 7 rfl) (by show ¬ (bq = w4.heap.size ∨ bq = w8.heap.size); omega)) (RCells.cons (hon.cell (hC.at 8 rfl) (by show ¬ (w.heap.size = w4.heap.size ∨ w.heap.size = w8.heap.size); omega)) (RCells.cons (hon.cell (hC.at 9 rfl) (by show ¬ (w.heap.size = w4.heap.size ∨ w.heap.size = w8.heap.size); omega)) (RCells.nil _)))))))))))
    replace hI := hI.trans hon
    clear hs hd hl_ ho hR hon
    refine X.thenN ?_
    refine Y.ret ?_
    exact Y.ret0 (v := .tuple #[.agg #[Vi (t + 1 + (q : Nat)), Vi ((wkV p t (refV p t x) q).1)], .agg #[Vi ((wkV p t (refV p t x) q).2), Vi 1], .bool true]) F (Y.rcc3 F rfl (Try.agg72 _) (Try.siz72 _) (Try.agg69 _) (Try.siz69 _) (by kernel_rfl) (by kernel_rfl) (by kernel_rfl) hV4 hV5) ⟨by rw [if_neg hwk, hkN], G⟩
   | true =>
    try rw [h23] at F
    have h23p : (((t : Int) + 1 + (q : Nat) : Int) < p.T) := of_decide_eq_true h23
    refine Y.condT (F.e 47 rfl) ?_
    refine Y.skip ?_
    refine X.thenN ?_
    refine Y.seq ?_
    refine Y.block ?_
    refine Y.seq ?_
    refine Y.lit (by kernel_rfl) ?_
    refine Y.pv F (X.move rfl (F.e 8 rfl)) ?_;clear F ac;intro ac F
    refine Y.pv F (X.binop rfl (F.e 50 rfl) (X.kc (Vi 1) rfl) (X.addI Try.underlying3 rfl (by omega) (by omega))) ?_;clear F ac;intro ac F
    refine Y.pv F (X.move rfl (F.e 0 rfl)) ?_;clear F ac;intro ac F
    refine Y.pv F (X.move rfl (F.e 8 rfl)) ?_;clear F ac;intro ac F
    refine Y.pv F (X.field rfl (F.e 4 rfl) (X.fld Try.underlying72 rfl (Try.siz3 _) rfl rfl)) ?_;clear F ac;intro ac F
    replace hC : RCells w22 [(Ad bq 0, Vi gq), (Ad bq 1, Vi p.aw), (Ad bq 2, Vi p.za), (Ad bq 3, Vi p.bu), (Ad bq 4, Vi p.re), (Ad bq 5, Vi p.hold), (Ad bq 6, Vi p.T), (Ad bq 7, .map (some bm)), (Ad w.heap.size 0, Vi t), (Ad w.heap.size 1, Vi x), (Ad w4.heap.size 1, Vi ((wkV p t (refV p t x) q).1))] := hC.append ((RCells.cons (hV4.cell (k := 1) (by decide)) (RCells.nil _)))
    refine Y.pv F (X.load rfl (F.e 54 rfl) (X.ld1 (Try.agg3 _) (hC.at 10 rfl))) ?_;clear F ac;intro ac F
    refine Y.pv F (Y.bd rfl (Y.bd2 (F.e 53 rfl) (F.e 55 rfl)) (Try.bd72 _ _ _)) ?_;clear F ac;intro ac F
    refine Y.pcall F (X.w0 rfl) rfl (X.enter (F := 77) rfl (X.kc (.func (.func 77) #[] #[]) rfl) (X.a2 (F.e 52 rfl) (F.e 56 rfl)) (enters_of Try.func77 (by kernel_rfl) rfl _)) (refilled_any bq bm gq p ((t : Int) + 1 + (q : Nat)) ((wkV p t (refV p t x) q).1) w22 hq h (by omega) (by omega)) ?_
    clear F ac
    rintro e w25 ⟨rfl, g⟩
    refine ⟨_, rfl, ?_⟩
    intro ac F
    replace G := G.trans g
    replace hC := hC.gr g
    replace hI := hI.thenGr g
    replace hq := hq.gr g
    replace hV4 := hV4.gr g
    replace hV5 := hV5.gr g
    clear g
    refine Y.pv F (Y.bd rfl (Y.bd2 (F.e 51 rfl) (F.e 57 rfl)) (Try.bd72 _ _ _)) ?_;clear F ac;intro ac F
    obtain ⟨w26, hrun, hS2, hon⟩ := hV4.st2 (P := Try.prog) (t := 72) (x := Vi (((t : Int) + 1 + (q : Nat) : Int) + 1)) (y := Vi (refV p ((t : Int) + 1 + (q : Nat)) ((wkV p t (refV p t x) q).1))) (fun W => Try.siz72 W) rfl rfl
    refine Y.punit F (X.w0 rfl) rfl (X.store rfl (F.e 4 rfl) (F.e 58 rfl) hrun) ?_
    clear F ac hrun
    intro ac F
    replace G := Y.Only.up G hon (by omega)
    replace hq := hq.only hon (by show ¬ _ = _; omega)
    replace hV5 := hV5.only hon (by show ¬ _ = _; omega)
    replace hC := (hC.kc hon 0 rfl (hC.kc hon 1 rfl (hC.kc hon 2 rfl (hC.kc hon 3 rfl (hC.kc hon 4 rfl (hC.kc hon 5 rfl (hC.kc hon 6 rfl (hC.kc hon 7 rfl (hC.kc hon 8 rfl (hC.kc hon 9 rfl (RCells.nil _)))))))))))
    replace hI := hI.step hon (.inl (.inl rfl))
    replace hV4 := hS2
    clear hS2 hon
    refine Y.nil ?_
    replace F : Fr ac 88 [(0, Vp bq), (1, .agg #[Vi t, Vi x]), (3, Vp w.heap.size), (4, Vp w4.heap.size), (5, Vp w8.heap.size), (6, .bool false), (7, Vi (refV p t x)), (8, Vi ((t : Int) + 1 + (q : Nat))), (13, .bool false), (47, .bool true)] := F.sub _
    refine X.thenN ?_
    refine Y.seq ?_
    refine Y.region F [some (Vi ((t : Int) + 1 + (q : Nat))), some (Vp w.heap.size), some (Vi t), some (Vp bq), some (Vp bq), some (.pointer (some ⟨bq, 5, none⟩)), some (Vi p.hold), some (Vi ((t : Int) + p.hold)), some (.bool (decide (((t : Int) + 1 + (q : Nat) : Int) < ((t : Int) + p.hold))))] [] rfl ⟨by kernel_rfl, of_decide_eq_true (by kernel_rfl), by kernel_rfl, by kernel_rfl, by kernel_rfl⟩ ⟨?_, ?_, ?_, ?_, ?_, ?_, ?_, ?_, ?_, trivial⟩ ?_
    ·intro ac done u W Sx hR
     exact X.vl (X.move rfl (Sx.ev 8 (Vi ((t : Int) + 1 + (q : Nat))))) hR.st0
    ·intro ac done u W Sx hR
     exact X.vl (X.field rfl (Sx.ev 3 (Vp w.heap.size)) (X.fld Try.underlying72 rfl (Try.siz3 _) rfl rfl)) hR.st0
    ·intro ac done u W Sx hR
     have g : Gr w26 W := hR.1
     exact X.vl (X.load rfl (Sx.ev 60 (Vp w.heap.size)) (X.ld1 (Try.agg3 _) ((hC.gr g).at 8 rfl))) hR.st0
    ·intro ac done u W Sx hR
     exact X.vl (X.move rfl (Sx.ev 0 (Vp bq))) hR.st0
    ·intro ac done u W Sx hR
     exact X.vl (Y.nilC rfl (Sx.ev 62 (Vp bq))) hR.st0
    ·intro ac done u W Sx hR
     exact X.vl (X.field rfl (Sx.ev 63 (Vp bq)) (X.fld Try.underlying110 rfl (Try.siz3 _) rfl rfl)) hR.st0
    ·intro ac done u W Sx hR
     have g : Gr w26 W := hR.1
     exact X.vl (X.load rfl (Sx.ev 64 (.pointer (some ⟨bq, 5, none⟩))) (X.ld1 (Try.agg3 _) ((hC.gr g).at 5 rfl))) hR.st0
    ·intro ac done u W Sx hR
     exact X.vl (X.binop rfl (Sx.ev 61 (Vi t)) (Sx.ev 65 (Vi p.hold)) (X.addI Try.underlying3 rfl (by omega) (by omega))) hR.st0
    ·intro ac done u W Sx hR
     exact X.vl (X.binop rfl (Sx.ev 59 (Vi ((t : Int) + 1 + (q : Nat)))) (Sx.ev 66 (Vi ((t : Int) + p.hold))) (X.lssI Try.underlying3 rfl)) hR.st0
    intro ac u w27 hs hd hl ho hR
    have g : Gr w26 w27 := hR.1
    replace F : Fr ac 88 [(0, Vp bq), (1, .agg #[Vi t, Vi x]), (3, Vp w.heap.size), (4, Vp w4.heap.size), (5, Vp w8.heap.size), (6, .bool false), (7, Vi (refV p t x)), (8, Vi ((t : Int) + 1 + (q : Nat))), (13, .bool false), (47, .bool true), (67, .bool (decide (((t : Int) + 1 + (q : Nat) : Int) < ((t : Int) + p.hold))))] := X.fr hs hd hl _ (by kernel_rfl)
    clear hs hd hl ho hR
    replace G := G.trans g
    replace hC := hC.gr g
    replace hI := hI.thenGr g
    replace hq := hq.gr g
    replace hV4 := hV4.gr g
    replace hV5 := hV5.gr g
    clear g
    refine X.thenN ?_
    cases h28 : decide (((t : Int) + 1 + (q : Nat) : Int) < ((t : Int) + p.hold)) with
    | false =>
     try rw [h28] at F
     have h28p : ¬ (((t : Int) + 1 + (q : Nat) : Int) < ((t : Int) + p.hold)) := of_decide_eq_false h28
     refine Y.condF (F.e 67 rfl) ?_
     replace hC : RCells w27 [(Ad bq 0, Vi gq), (Ad bq 1, Vi p.aw), (Ad bq 2, Vi p.za), (Ad bq 3, Vi p.bu), (Ad bq 4, Vi p.re), (Ad bq 5, Vi p.hold), (Ad bq 6, Vi p.T), (Ad bq 7, .map (some bm)), (Ad w.heap.size 0, Vi t), (Ad w.heap.size 1, Vi x), (Ad w8.heap.size 0, Vi ((wkV p t (refV p t x) q).2))] := hC.append ((RCells.cons (hV5.cell (k := 0) (by decide)) (RCells.nil _)))
     refine Y.regionS F [some (Vp w8.heap.size), some (Vi ((wkV p t (refV p t x) q).2)), some (Vp bq), some (Vp bq), some (Vp bq), some (.pointer (some ⟨bq, 2, none⟩)), some (Vi p.za), some (Vi (((wkV p t (refV p t x) q).2 : Int) + p.za)), some (Vp w8.heap.size), none] [] 9 (fun _ W => Only (fun x => x = w8.heap.size) w27 W ∧ OwnP W (w8.heap.size) 2 (VL [Vi (((wkV p t (refV p t x) q).2 : Int) + p.za), Vi 1])) rfl ⟨by kernel_rfl, of_decide_eq_true (by kernel_rfl), by kernel_rfl, by kernel_rfl, by kernel_rfl⟩ (of_decide_eq_true (by kernel_rfl)) ⟨?_, ?_, ?_, ?_, ?_, ?_, ?_, ?_, ?_, ?_, trivial⟩ ?_
     ·intro ac done u W Sx hT
      have hs := Sx.no 9 (by kernel_rfl)
      have hR := hT.1 hs
      exact X.vl (X.field rfl (Sx.ev 5 (Vp w8.heap.size)) (X.fld Try.underlying69 rfl (Try.siz3 _) rfl rfl)) (Y.RT.of hs rfl hR.st0)
     ·intro ac done u W Sx hT
      have hs := Sx.no 9 (by kernel_rfl)
      have hR := hT.1 hs
      have g : Gr w27 W := hR.1
      exact X.vl (X.load rfl (Sx.ev 77 (Vp w8.heap.size)) (X.ld1 (Try.agg3 _) ((hC.gr g).at 10 rfl))) (Y.RT.of hs rfl hR.st0)
     ·intro ac done u W Sx hT
      have hs := Sx.no 9 (by kernel_rfl)
      have hR := hT.1 hs
      exact X.vl (X.move rfl (Sx.ev 0 (Vp bq))) (Y.RT.of hs rfl hR.st0)
     ·intro ac done u W Sx hT
      have hs := Sx.no 9 (by kernel_rfl)
      have hR := hT.1 hs
      exact X.vl (Y.nilC rfl (Sx.ev 79 (Vp bq))) (Y.RT.of hs rfl hR.st0)
     ·intro ac done u W Sx hT
      have hs := Sx.no 9 (by kernel_rfl)
      have hR := hT.1 hs
      exact X.vl (X.field rfl (Sx.ev 80 (Vp bq)) (X.fld Try.underlying110 rfl (Try.siz31 _) rfl rfl)) (Y.RT.of hs rfl hR.st0)
     ·intro ac done u W Sx hT
      have hs := Sx.no 9 (by kernel_rfl)
      have hR := hT.1 hs
      exact X.vl (X.field rfl (Sx.ev 81 (Vp bq)) (X.fld Try.underlying31 rfl (Try.siz3 _) rfl rfl)) (Y.RT.of hs rfl hR.st0)
     ·intro ac done u W Sx hT
      have hs := Sx.no 9 (by kernel_rfl)
      have hR := hT.1 hs
      have g : Gr w27 W := hR.1
      exact X.vl (X.load rfl (Sx.ev 82 (.pointer (some ⟨bq, 2, none⟩))) (X.ld1 (Try.agg3 _) ((hC.gr g).at 2 rfl))) (Y.RT.of hs rfl hR.st0)
     ·intro ac done u W Sx hT
      have hs := Sx.no 9 (by kernel_rfl)
      have hR := hT.1 hs
      exact X.vl (X.binop rfl (Sx.ev 78 (Vi ((wkV p t (refV p t x) q).2))) (Sx.ev 83 (Vi p.za)) (X.addI Try.underlying3 rfl (by omega) (by omega))) (Y.RT.of hs rfl hR.st0)
     ·intro ac done u W Sx hT
      have hs := Sx.no 9 (by kernel_rfl)
      have hR := hT.1 hs
      exact X.vl (X.field rfl (Sx.ev 5 (Vp w8.heap.size)) (X.fld Try.underlying69 rfl (Try.siz3 _) rfl rfl)) (Y.RT.of hs rfl hR.st0)
     ·intro ac done u W Sx hT
      have hR := hT.1 Sx.nd
      have g : Gr w27 W := hR.1
      have hS2 := ((hV5.gr g).set (k := 0) (Vi (((wkV p t (refV p t x) q).2 : Int) + p.za))).congr (VL_set0 _ _ _)
      exact X.unit (X.w0 rfl) rfl (X.store rfl (Sx.ev 85 (Vp w8.heap.size)) (Sx.ev 84 (Vi (((wkV p t (refV p t x) q).2 : Int) + p.za))) ((hV5.gr g).st1 (Try.siz3 _) rfl rfl (by decide))) (Y.RT.fin ⟨(g.only _).trans (Y.set_only _ _ _ _), hS2⟩)
     rintro ac u w29 hs hd hl_ ho ⟨hon, hS2⟩
     replace F : Fr ac 88 [(0, Vp bq), (1, .agg #[Vi t, Vi x]), (3, Vp w.heap.size), (4, Vp w4.heap.size), (5, Vp w8.heap.size), (6, .bool false), (7, Vi (refV p t x)), (8, Vi ((t : Int) + 1 + (q : Nat))), (13, .bool false), (47, .bool true), (67, .bool false)] := X.fr hs hd hl_ _ (by kernel_rfl)
     clear hs hd hl_ ho
     replace G := Y.Only.up G hon (by omega)
     replace hq := hq.only hon (by show ¬ bq = w8.heap.size; omega)
     replace hV4 := hV4.only hon (by show ¬ w4.heap.size = w8.heap.size; omega)
     replace hV5 := hS2
     replace hC := (hC.kc hon 0 rfl (hC.kc hon 1 rfl (hC.kc hon 2 rfl (hC.kc hon 3 rfl (hC.kc hon 4 rfl (hC.kc hon 5 rfl (hC.kc hon 6 rfl (hC.kc hon 7 rfl (hC.kc hon 8 rfl (hC.kc hon 9 rfl (RCells.nil _)))))))))))
     replace hI := hI.step hon (.inl (.inr rfl))
     clear hon hS2
     refine X.blockN ?_
     refine X.thenN ?_
     refine Y.lit (by kernel_rfl) ?_
     refine Y.pv F (X.move rfl (F.e 8 rfl)) ?_;clear F ac;intro ac F
     refine Y.pv F (X.binop rfl (F.e 48 rfl) (X.kc (Vi 1) rfl) (X.addI Try.underlying3 rfl (by omega) (by omega))) ?_;clear F ac;intro ac F
     refine Y.pv F (X.assign rfl (F.e 49 rfl)) ?_;clear F ac;intro ac F
     refine Y.nil ?_
     replace F : Fr ac 88 [(0, Vp bq), (1, .agg #[Vi t, Vi x]), (3, Vp w.heap.size), (4, Vp w4.heap.size), (5, Vp w8.heap.size), (6, .bool false), (7, Vi (refV p t x)), (8, Vi (((t : Int) + 1 + (q : Nat) : Int) + 1)), (13, .bool false), (47, .bool true), (67, .bool false)] := F.sub _
     refine X.thenN ?_
     refine ⟨_, ?_, q + 1, rfl, wkN_lt h19p h23p, hI, (by rw [show (t : Int) + 1 + ((q + 1 : Nat) : Int) = t + 1 + (q : Nat) + 1 by omega]; exact hV4), (by show OwnP _ _ 2 (VL [Vi ((wkV p t (refV p t x) q).2 + (if t + 1 + (q : Nat) < t + p.hold then p.aw else p.za)), _]); rw [if_neg (by omega)]; exact hV5), (by rw [show (t : Int) + 1 + ((q + 1 : Nat) : Int) = t + 1 + (q : Nat) + 1 by omega]; exact F.sub _)⟩
     omega
    | true =>
     try rw [h28] at F
     have h28p : (((t : Int) + 1 + (q : Nat) : Int) < ((t : Int) + p.hold)) := of_decide_eq_true h28
     refine Y.condT (F.e 67 rfl) ?_
     replace hC : RCells w27 [(Ad bq 0, Vi gq), (Ad bq 1, Vi p.aw), (Ad bq 2, Vi p.za), (Ad bq 3, Vi p.bu), (Ad bq 4, Vi p.re), (Ad bq 5, Vi p.hold), (Ad bq 6, Vi p.T), (Ad bq 7, .map (some bm)), (Ad w.heap.size 0, Vi t), (Ad w.heap.size 1, Vi x), (Ad w8.heap.size 0, Vi ((wkV p t (refV p t x) q).2))] := hC.append ((RCells.cons (hV5.cell (k := 0) (by decide)) (RCells.nil _)))
     refine Y.regionS F [some (Vp w8.heap.size), some (Vi ((wkV p t (refV p t x) q).2)), some (Vp bq), some (Vp bq), some (Vp bq), some (.pointer (some ⟨bq, 1, none⟩)), some (Vi p.aw), some (Vi (((wkV p t (refV p t x) q).2 : Int) + p.aw)), some (Vp w8.heap.size), none] [] 9 (fun _ W => Only (fun x => x = w8.heap.size) w27 W ∧ OwnP W (w8.heap.size) 2 (VL [Vi (((wkV p t (refV p t x) q).2 : Int) + p.aw), Vi 1])) rfl ⟨by kernel_rfl, of_decide_eq_true (by kernel_rfl), by kernel_rfl, by kernel_rfl, by kernel_rfl⟩ (of_decide_eq_true (by kernel_rfl)) ⟨?_, ?_, ?_, ?_, ?_, ?_, ?_, ?_, ?_, ?_, trivial⟩ ?_
     ·intro ac done u W Sx hT
      have hs := Sx.no 9 (by kernel_rfl)
      have hR := hT.1 hs
      exact X.vl (X.field rfl (Sx.ev 5 (Vp w8.heap.size)) (X.fld Try.underlying69 rfl (Try.siz3 _) rfl rfl)) (Y.RT.of hs rfl hR.st0)
     ·intro ac done u W Sx hT
      have hs := Sx.no 9 (by kernel_rfl)
      have hR := hT.1 hs
      have g : Gr w27 W := hR.1
      exact X.vl (X.load rfl (Sx.ev 68 (Vp w8.heap.size)) (X.ld1 (Try.agg3 _) ((hC.gr g).at 10 rfl))) (Y.RT.of hs rfl hR.st0)
     ·intro ac done u W Sx hT
      have hs := Sx.no 9 (by kernel_rfl)
      have hR := hT.1 hs
      exact X.vl (X.move rfl (Sx.ev 0 (Vp bq))) (Y.RT.of hs rfl hR.st0)
     ·intro ac done u W Sx hT
      have hs := Sx.no 9 (by kernel_rfl)
      have hR := hT.1 hs
      exact X.vl (Y.nilC rfl (Sx.ev 70 (Vp bq))) (Y.RT.of hs rfl hR.st0)
     ·intro ac done u W Sx hT
      have hs := Sx.no 9 (by kernel_rfl)
      have hR := hT.1 hs
      exact X.vl (X.field rfl (Sx.ev 71 (Vp bq)) (X.fld Try.underlying110 rfl (Try.siz31 _) rfl rfl)) (Y.RT.of hs rfl hR.st0)
     ·intro ac done u W Sx hT
      have hs := Sx.no 9 (by kernel_rfl)
      have hR := hT.1 hs
      exact X.vl (X.field rfl (Sx.ev 72 (Vp bq)) (X.fld Try.underlying31 rfl (Try.siz3 _) rfl rfl)) (Y.RT.of hs rfl hR.st0)
     ·intro ac done u W Sx hT
      have hs := Sx.no 9 (by kernel_rfl)
      have hR := hT.1 hs
      have g : Gr w27 W := hR.1
      exact X.vl (X.load rfl (Sx.ev 73 (.pointer (some ⟨bq, 1, none⟩))) (X.ld1 (Try.agg3 _) ((hC.gr g).at 1 rfl))) (Y.RT.of hs rfl hR.st0)
     ·intro ac done u W Sx hT
      have hs := Sx.no 9 (by kernel_rfl)
      have hR := hT.1 hs
      exact X.vl (X.binop rfl (Sx.ev 69 (Vi ((wkV p t (refV p t x) q).2))) (Sx.ev 74 (Vi p.aw)) (X.addI Try.underlying3 rfl (by omega) (by omega))) (Y.RT.of hs rfl hR.st0)
     ·intro ac done u W Sx hT
      have hs := Sx.no 9 (by kernel_rfl)
      have hR := hT.1 hs
      exact X.vl (X.field rfl (Sx.ev 5 (Vp w8.heap.size)) (X.fld Try.underlying69 rfl (Try.siz3 _) rfl rfl)) (Y.RT.of hs rfl hR.st0)
     ·intro ac done u W Sx hT
      have hR := hT.1 Sx.nd
      have g : Gr w27 W := hR.1
      have hS2 := ((hV5.gr g).set (k := 0) (Vi (((wkV p t (refV p t x) q).2 : Int) + p.aw))).congr (VL_set0 _ _ _)
      exact X.unit (X.w0 rfl) rfl (X.store rfl (Sx.ev 76 (Vp w8.heap.size)) (Sx.ev 75 (Vi (((wkV p t (refV p t x) q).2 : Int) + p.aw))) ((hV5.gr g).st1 (Try.siz3 _) rfl rfl (by decide))) (Y.RT.fin ⟨(g.only _).trans (Y.set_only _ _ _ _), hS2⟩)
     rintro ac u w30 hs hd hl_ ho ⟨hon, hS2⟩
     replace F : Fr ac 88 [(0, Vp bq), (1, .agg #[Vi t, Vi x]), (3, Vp w.heap.size), (4, Vp w4.heap.size), (5, Vp w8.heap.size), (6, .bool false), (7, Vi (refV p t x)), (8, Vi ((t : Int) + 1 + (q : Nat))), (13, .bool false), (47, .bool true), (67, .bool true)] := X.fr hs hd hl_ _ (by kernel_rfl)
     clear hs hd hl_ ho
     replace G := Y.Only.up G hon (by omega)
     replace hq := hq.only hon (by show ¬ bq = w8.heap.size; omega)
     replace hV4 := hV4.only hon (by show ¬ w4.heap.size = w8.heap.size; omega)
     replace hV5 := hS2
     replace hC := (hC.kc hon 0 rfl (hC.kc hon 1 rfl (hC.kc hon 2 rfl (hC.kc hon 3 rfl (hC.kc hon 4 rfl (hC.kc hon 5 rfl (hC.kc hon 6 rfl (hC.kc hon 7 rfl (hC.kc hon 8 rfl (hC.kc hon 9 rfl (RCells.nil _)))))))))))
     replace hI := hI.step hon (.inl (.inr rfl))
     clear hon hS2
     refine X.blockN ?_
     refine X.thenN ?_
     refine Y.lit (by kernel_rfl) ?_
     refine Y.pv F (X.move rfl (F.e 8 rfl)) ?_;clear F ac;intro ac F
     refine Y.pv F (X.binop rfl (F.e 48 rfl) (X.kc (Vi 1) rfl) (X.addI Try.underlying3 rfl (by omega) (by omega))) ?_;clear F ac;intro ac F
     refine Y.pv F (X.assign rfl (F.e 49 rfl)) ?_;clear F ac;intro ac F
     refine Y.nil ?_
     replace F : Fr ac 88 [(0, Vp bq), (1, .agg #[Vi t, Vi x]), (3, Vp w.heap.size), (4, Vp w4.heap.size), (5, Vp w8.heap.size), (6, .bool false), (7, Vi (refV p t x)), (8, Vi (((t : Int) + 1 + (q : Nat) : Int) + 1)), (13, .bool false), (47, .bool true), (67, .bool true)] := F.sub _
     refine X.thenN ?_
     refine ⟨_, ?_, q + 1, rfl, wkN_lt h19p h23p, hI, (by rw [show (t : Int) + 1 + ((q + 1 : Nat) : Int) = t + 1 + (q : Nat) + 1 by omega]; exact hV4), (by show OwnP _ _ 2 (VL [Vi ((wkV p t (refV p t x) q).2 + (if t + 1 + (q : Nat) < t + p.hold then p.aw else p.za)), _]); rw [if_pos (by omega)]; exact hV5), (by rw [show (t : Int) + 1 + ((q + 1 : Nat) : Int) = t + 1 + (q : Nat) + 1 by omega]; exact F.sub _)⟩
     omega
 | true =>
  try rw [h15] at F
  have h15p : (refV p t x : Int) = 0 := by simpa using h15
  have hwk : refV p t x = 0 := h15p
  have hrb := refV_nn h (t := t) hx.1 hx.2
  refine Y.condT (F.e 13 rfl) ?_
  refine Y.seq ?_
  replace hC : RCells w14 [(Ad bq 0, Vi gq), (Ad bq 1, Vi p.aw), (Ad bq 2, Vi p.za), (Ad bq 3, Vi p.bu), (Ad bq 4, Vi p.re), (Ad bq 5, Vi p.hold), (Ad bq 6, Vi p.T), (Ad bq 7, .map (some bm)), (Ad w.heap.size 0, Vi t), (Ad w.heap.size 1, Vi x), (Ad w8.heap.size 0, Vi 0)] := hC.append ((RCells.cons (hV9.cell (k := 0) (by decide)) (RCells.nil _)))
  replace hC : RCells w14 [(Ad bq 0, Vi gq), (Ad bq 1, Vi p.aw), (Ad bq 2, Vi p.za), (Ad bq 3, Vi p.bu), (Ad bq 4, Vi p.re), (Ad bq 5, Vi p.hold), (Ad bq 6, Vi p.T), (Ad bq 7, .map (some bm)), (Ad w.heap.size 0, Vi t), (Ad w.heap.size 1, Vi x), (Ad w8.heap.size 0, Vi 0), (Ad w8.heap.size 1, Vi 0)] := hC.append ((RCells.cons (hV9.cell (k := 1) (by decide)) (RCells.nil _)))
  refine region_xi F [some (.agg #[Vi t, Vi x]), some (.agg #[Vi 0, Vi 0]), none, none, some (.bool false)] (RT2 w14 (w4.heap.size) 2 (w8.heap.size) 3 (VL [Vi 0, Vi 0]) (VL [Vi t, Vi x]) (VL [Vi 0, Vi 0]) (VL [Vi 0, Vi 0])) rfl ⟨by kernel_rfl, of_decide_eq_true (by kernel_rfl), by kernel_rfl, by kernel_rfl, by kernel_rfl⟩ (fun _ => ⟨RT2.start (Gr.refl _) hV5 hV9, RT2.start (Gr.drew _) hV5 hV9⟩) ⟨?_, ?_, ?_, ?_, ?_, trivial⟩ ?_
  ·intro ac done u W Sx hR
   exact X.vl (X.load rfl (Sx.ev 3 (Vp w.heap.size)) (X.ldN (Try.agg72 _) (Try.siz72 _) (Y.atz (⟨w.heap.size, 0, none⟩) (Y.AtFrom.cons (hR.o.cell (hC.at 8 rfl) (by show ¬ (w.heap.size = w4.heap.size ∨ w.heap.size = w8.heap.size); omega)) (Y.AtFrom.cons (hR.o.cell (hC.at 9 rfl) (by show ¬ (w.heap.size = w4.heap.size ∨ w.heap.size = w8.heap.size); omega)) (Y.AtFrom.nil _ _ _)))))) (hR.quiet (by decide))
  ·intro ac done u W Sx hR
   exact X.vl (X.load rfl (Sx.ev 5 (Vp w8.heap.size)) (X.ldN (Try.agg69 _) (Try.siz69 _) (Y.atz (⟨w8.heap.size, 0, none⟩) (Y.AtFrom.cons ((hR.p2 (Sx.no 3 (by kernel_rfl))).cell (k := 0) (by decide)) (Y.AtFrom.cons ((hR.p2 (Sx.no 3 (by kernel_rfl))).cell (k := 1) (by decide)) (Y.AtFrom.nil _ _ _)))))) (hR.quiet (by decide))
  ·intro ac done u W Sx hR
   obtain ⟨W2, hrun, hS2, hon⟩ := (hR.p1 Sx.nd).st2 (P := Try.prog) (t := 72) (x := Vi t) (y := Vi x) (fun W => Try.siz72 W) rfl rfl
   exact X.unit (X.w0 rfl) rfl (X.store rfl (Sx.ev 4 (Vp w4.heap.size)) (Sx.ev 14 (.agg #[Vi t, Vi x])) hrun) (hR.st1 (by decide) (by omega) hS2 hon)
  ·intro ac done u W Sx hR
   obtain ⟨W2, hrun, hS2, hon⟩ := (hR.p2 Sx.nd).st2 (P := Try.prog) (t := 69) (x := Vi 0) (y := Vi 0) (fun W => Try.siz69 W) rfl rfl
   exact X.unit (X.w0 rfl) rfl (X.store rfl (Sx.ev 5 (Vp w8.heap.size)) (Sx.ev 15 (.agg #[Vi 0, Vi 0])) hrun) (hR.st2 (by decide) (by omega) hS2 hon)
  ·intro ac done u W Sx hR
   exact X.vl (X.assign rfl (X.kc (.bool false) rfl)) (hR.quiet (by decide))
  rintro ac u w31 hs hd hl_ ho hR
  replace F : Fr ac 88 [(0, Vp bq), (1, .agg #[Vi t, Vi x]), (3, Vp w.heap.size), (4, Vp w4.heap.size), (5, Vp w8.heap.size), (6, .bool false), (7, Vi (refV p t x)), (13, .bool true)] := X.fr hs hd hl_ _ (by kernel_rfl)
  have hon := hR.o
  replace hV5 := hR.q1 rfl
  replace hV9 := hR.q2 rfl
  replace G := ((G.only (fun b => w.heap.size ≤ b)).trans (hon.mono' (fun i e => by omega))).gr (fun i hi e => by omega)
  replace hq := hq.only hon (by show ¬ (bq = w4.heap.size ∨ bq = w8.heap.size); omega)
  replace hC := (RCells.cons (hon.cell (hC.at 0 rfl) (by show ¬ (bq = w4.heap.size ∨ bq = w8.heap.size); omega)) (RCells.cons (hon.cell (hC.at 1 rfl) (by show ¬ (bq = w4.heap.size ∨ bq = w8.heap.size); omega)) (RCells.cons (hon.cell (hC.at 2 rfl) (by show ¬ (bq = w4.heap.size ∨ bq = w8.heap.size); omega)) (RCells.cons (hon.cell (hC.at 3 rfl) (by show ¬ (bq = w4.heap.size ∨ bq = w8.heap.size); omega)) (RCells.cons (hon.cell (hC.at 4 rfl) (by show ¬ (bq = w4.heap.size ∨ bq = w8.heap.size); omega)) (RCells.cons (hon.cell (hC.at 5 rfl) (by show ¬ (bq = w4.heap.size ∨ bq = w8.heap.size); omega)) (RCells.cons (hon.cell (hC.at 6 rfl) (by show ¬ (bq = w4.heap.size ∨ bq = w8.heap.size); omega)) (RCells.cons (hon.cell (hC.at 7 rfl) (by show ¬ (bq = w4.heap.size ∨ bq = w8.heap.size); omega)) (RCells.cons (hon.cell (hC.at 8 rfl) (by show ¬ (w.heap.size = w4.heap.size ∨ w.heap.size = w8.heap.size); omega)) (RCells.cons (hon.cell (hC.at 9 rfl) (by show ¬ (w.heap.size = w4.heap.size ∨ w.heap.size = w8.heap.size); omega)) (RCells.nil _)))))))))))
  clear hs hd hl_ ho hR hon
  refine X.thenN ?_
  refine Y.ret ?_
  refine X.thenR ?_
  exact Y.ret0 (v := .tuple #[.agg #[Vi t, Vi x], .agg #[Vi 0, Vi 0], .bool false]) F (Y.rcc3 F rfl (Try.agg72 _) (Try.siz72 _) (Try.agg69 _) (Try.siz69 _) (by kernel_rfl) (by kernel_rfl) (by kernel_rfl) hV5 hV9) ⟨by rw [if_pos hwk], G⟩
end
section
open Go.RowKit

set_option maxRecDepth 100000 in
set_option maxHeartbeats 400000 in
theorem better_any (x y z r : Int) (w : World) :
  Calls Try.prog 74 #[.agg #[Vi x, Vi y], .agg #[Vi z, Vi r]] w fun e w' => e = .returned (.bool (betB (x, y) (z, r))) ∧ Gr w w' := by
 have G := Gr.refl w
 refine Y.calls 18 Try.func74 rfl rfl ?_
 intro ac F0
 have F : Fr ac 18 [(0, .agg #[Vi x, Vi y]), (1, .agg #[Vi z, Vi r])] := F0.sub _
 clear F0
 refine Y.seq ?_
 refine Y.lit (by kernel_rfl) ?_
 refine Y.pv F (X.box rfl (F.e 0 rfl) X.bx) ?_;clear F ac;intro ac F
 have g := Gr.alloc w (.cells #[Vi x, Vi y] 69)
 have hb := heap_alloc_new w (.cells #[Vi x, Vi y] 69)
 have hbl : w.heap.size < (w.alloc (.cells #[Vi x, Vi y] 69)).heap.size := by simp
 have hC2 : RCells (w.alloc (.cells #[Vi x, Vi y] 69)) [(Ad w.heap.size 0, Vi x), (Ad w.heap.size 1, Vi y)] := (RCells.nil w).box (b := w.heap.size) #[Vi x, Vi y] 69 rfl
 generalize w.alloc (.cells #[Vi x, Vi y] 69) = w3 at *
 replace G := G.trans g
 have hC := hC2
 clear hC2
 clear g hb hbl
 refine Y.pv F (X.box rfl (F.e 1 rfl) X.bx) ?_;clear F ac;intro ac F
 have hq4 : w.heap.size < w3.heap.size := lt_cell (hC.at 0 rfl)
 have g := Gr.alloc w3 (.cells #[Vi z, Vi r] 69)
 have hb := heap_alloc_new w3 (.cells #[Vi z, Vi r] 69)
 have hbl : w3.heap.size < (w3.alloc (.cells #[Vi z, Vi r] 69)).heap.size := by simp
 have hC2 : RCells (w3.alloc (.cells #[Vi z, Vi r] 69)) [(Ad w.heap.size 0, Vi x), (Ad w.heap.size 1, Vi y), (Ad w3.heap.size 0, Vi z), (Ad w3.heap.size 1, Vi r)] := hC.box (b := w3.heap.size) #[Vi z, Vi r] 69 rfl
 generalize w3.alloc (.cells #[Vi z, Vi r] 69) = w5 at *
 replace G := G.trans g
 replace hC := hC2
 clear hC2
 clear g hb hbl
 refine Y.pv F (X.assign rfl (X.kc (.bool false) rfl)) ?_;clear F ac;intro ac F
 refine Y.nil ?_
 replace F : Fr ac 18 [(0, .agg #[Vi x, Vi y]), (1, .agg #[Vi z, Vi r]), (2, Vp w.heap.size), (3, Vp w3.heap.size), (4, .bool false)] := F.sub _
 refine X.thenN ?_
 refine Y.seq ?_
 refine Y.region F [some (Vp w.heap.size), some (Vi x), some (Vp w3.heap.size), some (Vi z), some (Vi (cmpI x z)), some (.pointer (some ⟨w3.heap.size, 1, none⟩)), some (Vi r), some (.pointer (some ⟨w.heap.size, 1, none⟩)), some (Vi y), some (Vi (cmpI r y)), none, some (Vi (orI (cmpI x z) (cmpI r y))), some (.bool (decide ((0 : Int) < (orI (cmpI x z) (cmpI r y))))), some (.bool (decide ((0 : Int) < (orI (cmpI x z) (cmpI r y)))))] [(10, Y.MP.two (cmpI x z) (cmpI r y))] rfl ⟨by kernel_rfl, of_decide_eq_true (by kernel_rfl), by kernel_rfl, by kernel_rfl, by kernel_rfl⟩ ⟨?_, ?_, ?_, ?_, ?_, ?_, ?_, ?_, ?_, ?_, ?_, ?_, ?_, ?_, trivial⟩ ?_
 ·intro ac done u W Sx hR
  exact X.vl (X.field rfl (Sx.ev 2 (Vp w.heap.size)) (X.fld Try.underlying69 rfl (Try.siz3 _) rfl rfl)) hR.st0
 ·intro ac done u W Sx hR
  have g : Gr w5 W := hR.1
  exact X.vl (X.load rfl (Sx.ev 5 (Vp w.heap.size)) (X.ld1 (Try.agg3 _) ((hC.gr g).at 0 rfl))) hR.st0
 ·intro ac done u W Sx hR
  exact X.vl (X.field rfl (Sx.ev 3 (Vp w3.heap.size)) (X.fld Try.underlying69 rfl (Try.siz3 _) rfl rfl)) hR.st0
 ·intro ac done u W Sx hR
  have g : Gr w5 W := hR.1
  exact X.vl (X.load rfl (Sx.ev 7 (Vp w3.heap.size)) (X.ld1 (Try.agg3 _) ((hC.gr g).at 2 rfl))) hR.st0
 ·intro ac done u W Sx hR
  refine X.call (X.w0 rfl) (X.enter (F := 86) rfl (X.kc (.func (.func 86) #[] #[]) rfl) (X.a2 (Sx.ev 6 (Vi x)) (Sx.ev 8 (Vi z))) (enters_of Try.func86 (by kernel_rfl) rfl _)) (compare_any x z W) ?_
  rintro e W2 ⟨rfl, rfl⟩
  exact ⟨_, rfl, X.kn rfl, hR.step (Gr.refl _) rfl⟩
 ·intro ac done u W Sx hR
  exact X.vl (X.field rfl (Sx.ev 3 (Vp w3.heap.size)) (X.fld Try.underlying69 rfl (Try.siz3 _) rfl rfl)) hR.st0
 ·intro ac done u W Sx hR
  have g : Gr w5 W := hR.1
  exact X.vl (X.load rfl (Sx.ev 10 (.pointer (some ⟨w3.heap.size, 1, none⟩))) (X.ld1 (Try.agg3 _) ((hC.gr g).at 3 rfl))) hR.st0
 ·intro ac done u W Sx hR
  exact X.vl (X.field rfl (Sx.ev 2 (Vp w.heap.size)) (X.fld Try.underlying69 rfl (Try.siz3 _) rfl rfl)) hR.st0
 ·intro ac done u W Sx hR
  have g : Gr w5 W := hR.1
  exact X.vl (X.load rfl (Sx.ev 12 (.pointer (some ⟨w.heap.size, 1, none⟩))) (X.ld1 (Try.agg3 _) ((hC.gr g).at 1 rfl))) hR.st0
 ·intro ac done u W Sx hR
  refine X.call (X.w0 rfl) (X.enter (F := 86) rfl (X.kc (.func (.func 86) #[] #[]) rfl) (X.a2 (Sx.ev 11 (Vi r)) (Sx.ev 13 (Vi y))) (enters_of Try.func86 (by kernel_rfl) rfl _)) (compare_any r y W) ?_
  rintro e W2 ⟨rfl, rfl⟩
  exact ⟨_, rfl, X.kn rfl, hR.step (Gr.refl _) rfl⟩
 ·intro ac done u W Sx hR
  have hb := heap_alloc_new W (.cells #[Vi (cmpI x z), Vi (cmpI r y)] 3)
  exact X.valN (X.w0 rfl) rfl (X.bs rfl (X.b2 (Sx.ev 9 (Vi (cmpI x z))) (Sx.ev 14 (Vi (cmpI r y)))) (Try.bs34_2 _ _ _)) (hR.new (q := Y.MP.two (cmpI x z) (cmpI r y)) (Gr.alloc _ _) rfl ⟨_, rfl, cell_new rfl, cell_new rfl⟩)
 ·intro ac done u W Sx hR
  obtain ⟨nb6, e10, nx6, ny6⟩ := hR.get (i := 10) (Y.MP.two (cmpI x z) (cmpI r y)) rfl (Sx.an 10 (by kernel_rfl))
  refine X.call (X.w0 rfl) (X.enter (F := 85) rfl (X.kc (.func (.func 85) #[] #[]) rfl) (X.a1 ((Sx.own 10 15 rfl).trans e10)) (enters_of Try.func85 (by kernel_rfl) rfl _)) (or_any ⟨nb6, 0, none⟩ 2 (cmpI x z) (cmpI r y) W nx6 ny6) ?_
  rintro e W2 ⟨rfl, rfl⟩
  exact ⟨_, rfl, X.kn rfl, hR.step (Gr.refl _) rfl⟩
 ·intro ac done u W Sx hR
  exact X.vl (X.binop rfl (Sx.ev 16 (Vi (orI (cmpI x z) (cmpI r y)))) (X.kc (Vi 0) rfl) (X.gtrI Try.underlying3 rfl)) hR.st0
 ·intro ac done u W Sx hR
  exact X.vl (X.assign rfl (Sx.ev 17 (.bool (decide ((0 : Int) < (orI (cmpI x z) (cmpI r y))))))) hR.st0
 intro ac u w7 hs hd hl ho hR
 have g : Gr w5 w7 := hR.1
 obtain ⟨nb6, e10, nx6, ny6⟩ := hR.get (i := 10) (Y.MP.two (cmpI x z) (cmpI r y)) rfl rfl
 replace F : Fr ac 18 [(0, .agg #[Vi x, Vi y]), (1, .agg #[Vi z, Vi r]), (2, Vp w.heap.size), (3, Vp w3.heap.size), (4, .bool (decide ((0 : Int) < (orI (cmpI x z) (cmpI r y)))))] := X.fr hs hd hl _ (by kernel_rfl)
 replace F : Fr ac 18 [(0, .agg #[Vi x, Vi y]), (1, .agg #[Vi z, Vi r]), (2, Vp w.heap.size), (3, Vp w3.heap.size), (4, .bool (decide ((0 : Int) < (orI (cmpI x z) (cmpI r y)))))] := F.sub _
 clear e10
 clear hs hd hl ho hR
 replace G := G.trans g
 replace hC := hC.gr g
 clear g
 refine X.thenN ?_
 refine Y.ret ?_
 exact Y.ret0 (v := .bool (decide ((0 : Int) < (orI (cmpI x z) (cmpI r y))))) F (Y.rs1 F rfl (by kernel_rfl)) ⟨rfl, G⟩
end
section
open Go.RowKit

set_option maxRecDepth 100000 in
set_option maxHeartbeats 1000000 in
theorem stay_any (bq bm : Nat) (gq : Int) (p : Nd) (t x : Int) (w : World) (hq : Pq w bq gq p.aw p.za p.bu p.re p.hold p.T bm) (h : NdOk p) (ht : 0 ≤ t ∧ t ≤ 100000) (hx : 0 ≤ x ∧ x ≤ 100000) :
  Calls Try.prog 63 #[Vp bq, .agg #[Vi t, Vi x]] w fun e w' => e = .returned (.tuple #[.agg #[Vi (t + 1), Vi (refV p t x)], .agg #[Vi p.za, Vi 0]]) ∧ Gr w w' := by
 have G := Gr.refl w
 have hC : RCells w (PqC bq gq p.aw p.za p.bu p.re p.hold p.T bm) := hq
 have hbq := hq.lt
 have ha0 := h.a0
 have ha1 := h.a1
 have ha2 := h.a2
 have hb0 := h.b0
 have hb1 := h.b1
 have hr0 := h.r0
 have hr1 := h.r1
 have hh0 := h.h0
 have hh1 := h.h1
 have ht0_ := h.t0
 have ht1_ := h.t1
 refine Y.calls 19 Try.func63 rfl rfl ?_
 intro ac F0
 have F : Fr ac 19 [(0, Vp bq), (1, .agg #[Vi t, Vi x])] := F0.sub _
 clear F0
 refine Y.seq ?_
 refine Y.lit (by kernel_rfl) ?_
 refine Y.pv F (X.box rfl (F.e 1 rfl) X.bx) ?_;clear F ac;intro ac F
 have hq3 : bq < w.heap.size := lt_cell (hC.at 0 rfl)
 have g := Gr.alloc w (.cells #[Vi t, Vi x] 72)
 have hb := heap_alloc_new w (.cells #[Vi t, Vi x] 72)
 have hbl : w.heap.size < (w.alloc (.cells #[Vi t, Vi x] 72)).heap.size := by simp
 have hC2 : RCells (w.alloc (.cells #[Vi t, Vi x] 72)) [(Ad bq 0, Vi gq), (Ad bq 1, Vi p.aw), (Ad bq 2, Vi p.za), (Ad bq 3, Vi p.bu), (Ad bq 4, Vi p.re), (Ad bq 5, Vi p.hold), (Ad bq 6, Vi p.T), (Ad bq 7, .map (some bm)), (Ad w.heap.size 0, Vi t), (Ad w.heap.size 1, Vi x)] := hC.box (b := w.heap.size) #[Vi t, Vi x] 72 rfl
 generalize w.alloc (.cells #[Vi t, Vi x] 72) = w4 at *
 replace G := G.trans g
 replace hC := hC2
 clear hC2
 replace hq := hq.gr g
 clear g hb hbl
 refine Y.pv F (Y.al rfl (Try.new72 _)) ?_;clear F ac;intro ac F
 have hgshV5 := G.size
 have hq6 : bq < w4.heap.size := lt_cell (hC.at 0 rfl)
 have hq7 : w.heap.size < w4.heap.size := lt_cell (hC.at 8 rfl)
 have g := Gr.alloc w4 (.cells #[Vi 0, Vi 0] 72)
 have hb := heap_alloc_new w4 (.cells #[Vi 0, Vi 0] 72)
 have hbl : w4.heap.size < (w4.alloc (.cells #[Vi 0, Vi 0] 72)).heap.size := by simp
 generalize w4.alloc (.cells #[Vi 0, Vi 0] 72) = w8 at *
 replace G := G.trans g
 replace hC := hC.gr g
 replace hq := hq.gr g
 have hV5 := ownP_2 hb
 clear g hb hbl
 refine Y.pv F (Y.al rfl (Try.new69 _)) ?_;clear F ac;intro ac F
 have hgshV9 := G.size
 have hq10 : w4.heap.size < w8.heap.size := hV5.lt
 have hq11 : bq < w8.heap.size := lt_cell (hC.at 0 rfl)
 have hq12 : w.heap.size < w8.heap.size := lt_cell (hC.at 8 rfl)
 have g := Gr.alloc w8 (.cells #[Vi 0, Vi 0] 69)
 have hb := heap_alloc_new w8 (.cells #[Vi 0, Vi 0] 69)
 have hbl : w8.heap.size < (w8.alloc (.cells #[Vi 0, Vi 0] 69)).heap.size := by simp
 generalize w8.alloc (.cells #[Vi 0, Vi 0] 69) = w13 at *
 replace G := G.trans g
 replace hC := hC.gr g
 replace hq := hq.gr g
 replace hV5 := hV5.gr g
 have hV9 := ownP_2 hb
 clear g hb hbl
 refine Y.nil ?_
 replace F : Fr ac 19 [(0, Vp bq), (1, .agg #[Vi t, Vi x]), (3, Vp w.heap.size), (4, Vp w4.heap.size), (5, Vp w8.heap.size)] := F.sub _
 refine X.thenN ?_
 refine Y.seq ?_
 refine region_xi F [some (Vp w.heap.size), some (Vi t), some (Vi ((t : Int) + 1)), some (Vp bq), some (.agg #[Vi t, Vi x]), some (Vi (refV p t x)), some (.agg #[Vi ((t : Int) + 1), Vi (refV p t x)]), some (Vp bq), some (Vp bq), some (Vp bq), some (.pointer (some ⟨bq, 2, none⟩)), some (Vi p.za), some (.agg #[Vi p.za, Vi 0]), none, none] (RT2 w13 (w4.heap.size) 13 (w8.heap.size) 14 (VL [Vi 0, Vi 0]) (VL [Vi ((t : Int) + 1), Vi (refV p t x)]) (VL [Vi 0, Vi 0]) (VL [Vi p.za, Vi 0])) rfl ⟨by kernel_rfl, of_decide_eq_true (by kernel_rfl), by kernel_rfl, by kernel_rfl, by kernel_rfl⟩ (fun _ => ⟨RT2.start (Gr.refl _) hV5 hV9, RT2.start (Gr.drew _) hV5 hV9⟩) ⟨?_, ?_, ?_, ?_, ?_, ?_, ?_, ?_, ?_, ?_, ?_, ?_, ?_, ?_, ?_, trivial⟩ ?_
 ·intro ac done u W Sx hR
  exact X.vl (X.field rfl (Sx.ev 3 (Vp w.heap.size)) (X.fld Try.underlying72 rfl (Try.siz3 _) rfl rfl)) (hR.quiet (by decide))
 ·intro ac done u W Sx hR
  exact X.vl (X.load rfl (Sx.ev 6 (Vp w.heap.size)) (X.ld1 (Try.agg3 _) (hR.o.cell (hC.at 8 rfl) (by show ¬ (w.heap.size = w4.heap.size ∨ w.heap.size = w8.heap.size); omega)))) (hR.quiet (by decide))
 ·intro ac done u W Sx hR
  exact X.vl (X.binop rfl (Sx.ev 7 (Vi t)) (X.kc (Vi 1) rfl) (X.addI Try.underlying3 rfl (by omega) (by omega))) (hR.quiet (by decide))
 ·intro ac done u W Sx hR
  exact X.vl (X.move rfl (Sx.ev 0 (Vp bq))) (hR.quiet (by decide))
 ·intro ac done u W Sx hR
  exact X.vl (X.load rfl (Sx.ev 3 (Vp w.heap.size)) (X.ldN (Try.agg72 _) (Try.siz72 _) (Y.atz (⟨w.heap.size, 0, none⟩) (Y.AtFrom.cons (hR.o.cell (hC.at 8 rfl) (by show ¬ (w.heap.size = w4.heap.size ∨ w.heap.size = w8.heap.size); omega)) (Y.AtFrom.cons (hR.o.cell (hC.at 9 rfl) (by show ¬ (w.heap.size = w4.heap.size ∨ w.heap.size = w8.heap.size); omega)) (Y.AtFrom.nil _ _ _)))))) (hR.quiet (by decide))
 ·intro ac done u W Sx hR
  refine X.call (X.w0 rfl) (X.enter (F := 77) rfl (X.kc (.func (.func 77) #[] #[]) rfl) (X.a2 (Sx.ev 9 (Vp bq)) (Sx.ev 10 (.agg #[Vi t, Vi x]))) (enters_of Try.func77 (by kernel_rfl) rfl _)) (refilled_any bq bm gq p t x W (hq.only hR.o (by show ¬ (bq = w4.heap.size ∨ bq = w8.heap.size); omega)) h (by omega) (by omega)) ?_
  rintro e W2 ⟨rfl, g2⟩
  exact ⟨_, rfl, X.kn rfl, hR.grow (by decide) g2⟩
 ·intro ac done u W Sx hR
  exact X.vl (Y.bd rfl (Y.bd2 (Sx.ev 8 (Vi ((t : Int) + 1))) (Sx.ev 11 (Vi (refV p t x)))) (Try.bd72 _ _ _)) (hR.quiet (by decide))
 ·intro ac done u W Sx hR
  exact X.vl (X.move rfl (Sx.ev 0 (Vp bq))) (hR.quiet (by decide))
 ·intro ac done u W Sx hR
  exact X.vl (Y.nilC rfl (Sx.ev 13 (Vp bq))) (hR.quiet (by decide))
 ·intro ac done u W Sx hR
  exact X.vl (X.field rfl (Sx.ev 14 (Vp bq)) (X.fld Try.underlying110 rfl (Try.siz31 _) rfl rfl)) (hR.quiet (by decide))
 ·intro ac done u W Sx hR
  exact X.vl (X.field rfl (Sx.ev 15 (Vp bq)) (X.fld Try.underlying31 rfl (Try.siz3 _) rfl rfl)) (hR.quiet (by decide))
 ·intro ac done u W Sx hR
  exact X.vl (X.load rfl (Sx.ev 16 (.pointer (some ⟨bq, 2, none⟩))) (X.ld1 (Try.agg3 _) (hR.o.cell (hC.at 2 rfl) (by show ¬ (bq = w4.heap.size ∨ bq = w8.heap.size); omega)))) (hR.quiet (by decide))
 ·intro ac done u W Sx hR
  exact X.vl (Y.bd rfl (Y.bd1 (Sx.ev 17 (Vi p.za))) (Try.bd69a _ _)) (hR.quiet (by decide))
 ·intro ac done u W Sx hR
  obtain ⟨W2, hrun, hS2, hon⟩ := (hR.p1 Sx.nd).st2 (P := Try.prog) (t := 72) (x := Vi ((t : Int) + 1)) (y := Vi (refV p t x)) (fun W => Try.siz72 W) rfl rfl
  exact X.unit (X.w0 rfl) rfl (X.store rfl (Sx.ev 4 (Vp w4.heap.size)) (Sx.ev 12 (.agg #[Vi ((t : Int) + 1), Vi (refV p t x)])) hrun) (hR.st1 (by decide) (by omega) hS2 hon)
 ·intro ac done u W Sx hR
  obtain ⟨W2, hrun, hS2, hon⟩ := (hR.p2 Sx.nd).st2 (P := Try.prog) (t := 69) (x := Vi p.za) (y := Vi 0) (fun W => Try.siz69 W) rfl rfl
  exact X.unit (X.w0 rfl) rfl (X.store rfl (Sx.ev 5 (Vp w8.heap.size)) (Sx.ev 18 (.agg #[Vi p.za, Vi 0])) hrun) (hR.st2 (by decide) (by omega) hS2 hon)
 rintro ac u w14 hs hd hl_ ho hR
 replace F : Fr ac 19 [(0, Vp bq), (1, .agg #[Vi t, Vi x]), (3, Vp w.heap.size), (4, Vp w4.heap.size), (5, Vp w8.heap.size)] := X.fr hs hd hl_ _ (by kernel_rfl)
 have hon := hR.o
 replace hV5 := hR.q1 rfl
 replace hV9 := hR.q2 rfl
 replace G := ((G.only (fun b => w.heap.size ≤ b)).trans (hon.mono' (fun i e => by omega))).gr (fun i hi e => by omega)
 replace hq := hq.only hon (by show ¬ (bq = w4.heap.size ∨ bq = w8.heap.size); omega)
 replace hC := (RCells.cons (hon.cell (hC.at 0 rfl) (by show ¬ (bq = w4.heap.size ∨ bq = w8.heap.size); omega)) (RCells.cons (hon.cell (hC.at 1 rfl) (by show ¬ (bq = w4.heap.size ∨ bq = w8.heap.size); omega)) (RCells.cons (hon.cell (hC.at 2 rfl) (by show ¬ (bq = w4.heap.size ∨ bq = w8.heap.size); omega)) (RCells.cons (hon.cell (hC.at 3 rfl) (by show ¬ (bq = w4.heap.size ∨ bq = w8.heap.size); omega)) (RCells.cons (hon.cell (hC.at 4 rfl) (by show ¬ (bq = w4.heap.size ∨ bq = w8.heap.size); omega)) (RCells.cons (hon.cell (hC.at 5 rfl) (by show ¬ (bq = w4.heap.size ∨ bq = w8.heap.size); omega)) (RCells.cons (hon.cell (hC.at 6 rfl) (by show ¬ (bq = w4.heap.size ∨ bq = w8.heap.size); omega)) (RCells.cons (hon.cell (hC.at 7 rfl) (by show ¬ (bq = w4.heap.size ∨ bq = w8.heap.size); omega)) (RCells.cons (hon.cell (hC.at 8 rfl) (by show ¬ (w.heap.size = w4.heap.size ∨ w.heap.size = w8.heap.size); omega)) (RCells.cons (hon.cell (hC.at 9 rfl) (by show ¬ (w.heap.size = w4.heap.size ∨ w.heap.size = w8.heap.size); omega)) (RCells.nil _)))))))))))
 clear hs hd hl_ ho hR hon
 refine X.thenN ?_
 refine Y.ret ?_
 exact Y.ret0 (v := .tuple #[.agg #[Vi ((t : Int) + 1), Vi (refV p t x)], .agg #[Vi p.za, Vi 0]]) F (Y.rcc2 F rfl (Try.agg72 _) (Try.siz72 _) (Try.agg69 _) (Try.siz69 _) (by kernel_rfl) (by kernel_rfl) hV5 hV9) ⟨rfl, G⟩
end
end Go.Proofs.Ytoalamakhjbedaa
