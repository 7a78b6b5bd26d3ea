/- Contract: TopUpdated returns true. -/
import Derived.Test.YtaidcocjcidggaaBd10
import Derived.Test.YtaidcocjcidggaaBd5
namespace Go.Proofs.Ytaidcocjcidggaa
set_option linter.unusedSimpArgs false
set_option linter.unusedVariables false
open Go.RowKit
set_option linter.unusedVariables false
set_option linter.unusedSimpArgs false

theorem take_snoc {α : Type} [Inhabited α] {l : List (List α)} {i : Nat} (h : i < l.length) : l.take (i + 1) = l.take i ++ [l[i]?.getD []] := by
  rw [List.take_succ_eq_append_getElem h, List.getElem?_eq_getElem h]; rfl
theorem pAt_end : ∀ (L : List (List Int)) (xs : List Int), pAt xs L L.length = lastOf xs L
  | [], xs => rfl
  | s :: r, xs => pAt_end r s
theorem bk_first {xs : List Int} {L : List (List Int)} {k : Nat} (h : 0 < k) : (bk xs L k)[k - 1]?.getD [] = xs := by
  rw [bk_at xs L k (k - 1) (by omega), show k - 1 - (k - 1) = 0 by omega]; rfl
theorem plan_mp (ta ca a b : Option Addr) (tn tc cn cc n c m d : Nat) (f : Fl) (xs ys : List Int) (bu : Int) (w : World) (hf : FlAt w ta tn ca cn f) (hx : Ints w a n xs) (hy : Ints w b m ys) :
    Calls Try.prog 17 #[.agg #[.slice ta tn tc, .slice ca cn cc], .slice a n c, .slice b m d, Vi bu] w fun e w' => ∃ v, e = .returned v ∧ (MP.plan (planV f xs ys bu) (planE f xs ys bu)).p v w' ∧ Gr w w' :=
  (plan_any ta ca a b tn tc cn cc n c m d f xs ys bu w hf hx hy).mono (fun _ _ h => PlanPost.mp h)
theorem int_mp (ta ca a pa ma : Option Addr) (tn tc cn cc n c pn pc mn mc : Nat) (f : Fl) (xs ms : List Int) (L : List (List Int)) (bu : Int) (w : World) (hf : FlAt w ta tn ca cn f) (hx : Ints w a n xs) (hL : RowsAt w pa pn L) (hpc : pn ≤ pc) (hm : Ints w ma mn ms) :
    Calls Try.prog 30 #[.agg #[.slice ta tn tc, .slice ca cn cc], .slice a n c, .slice pa pn pc, Vi bu, .slice ma mn mc] w fun e w' => ∃ v, e = .returned v ∧ (MP.plan (intV f xs L bu ms) (intE f xs L bu ms)).p v w' ∧ Gr w w' :=
  (interrupt_any ta ca a pa ma tn tc cn cc n c pn pc mn mc f xs ms L bu w hf hx hL hpc hm).mono (fun _ _ h => PlanPost.mp h)
theorem back_mp (ta ca a pa : Option Addr) (tn tc cn cc n c pn pc : Nat) (f : Fl) (xs : List Int) (L : List (List Int)) (bu dn : Int) (w : World) (hf : FlAt w ta tn ca cn f) (hx : Ints w a n xs) (hL : RowsAt w pa pn L) (hpc : pn ≤ pc) :
    Calls Try.prog 32 #[.agg #[.slice ta tn tc, .slice ca cn cc], .slice a n c, .slice pa pn pc, Vi bu, Vi dn] w fun e w' => ∃ v, e = .returned v ∧ (MP.plan (backV f xs L bu dn) (backE f xs L bu dn)).p v w' ∧ Gr w w' :=
  (back_any ta ca a pa tn tc cn cc n c pn pc f xs L bu dn w hf hx hL hpc).mono (fun _ _ h => PlanPost.mp h)
theorem inst_mp (ta ca a pa : Option Addr) (tn tc cn cc n c ln lc : Nat) (f : Fl) (se : Int) (xs : List Int) (P : List Pk) (w : World) (hf : FlAt w ta tn ca cn f) (hx : Ints w a n xs) (hP : PkAt w pa ln P) (hpc : ln ≤ lc) {yv : List Int} (hr : instR f se xs P = (yv, 0, 0)) :
    Calls Try.prog 34 #[.agg #[.slice ta tn tc, .slice ca cn cc], Vi se, .slice a n c, .slice pa ln lc] w fun e w' => ∃ v, e = .returned v ∧ (MP.inst yv).p v w' ∧ Gr w w' :=
  (install_any ta ca a pa tn tc cn cc n c ln lc f se xs P w hf hx hP hpc).mono (fun _ _ h => InstPost.mp h hr)

set_option maxRecDepth 100000 in
set_option maxHeartbeats 4000000 in
theorem updated_any (ta ca a b ma : Option Addr) (tn tc cn cc n c m d mn mc : Nat) (f : Fl) (xs ys ms : List Int) (bu se : Int) (data : ByteArray) (w : World) (hf : FlAt w ta tn ca cn f) (hx : Ints w a n xs) (hy : Ints w b m ys) (hm : Ints w ma mn ms) (hd0 : data.size < 1152921504606846976) :
  Calls Try.prog 14 #[.agg #[.slice ta tn tc, .slice ca cn cc], .agg #[.slice a n c, .slice b m d], .agg #[Vi bu, Vi se, .slice ma mn mc, .string data]] w fun e w' => e = .returned (.bool true) ∧ Gr w w' := by
 have G := Gr.refl w
 have hft := hf.t
 have hfc := hf.c
 clear hf
 have hxl := hx.len
 have hyl := hy.len
 obtain ⟨dt, hdt⟩ : ∃ z, z = if 50 < data.size then ByteArray.mk #[] else data := ⟨_, rfl⟩
 have hdz : dt.size < 1152921504606846976 := by rw [hdt]; split; exact (by decide : (ByteArray.mk #[]).size < 1152921504606846976); exact hd0
 refine Y.calls 316 Try.func14 rfl rfl ?_
 intro ac F0
 have F : Fr ac 316 [(0, .agg #[.slice ta tn tc, .slice ca cn cc]), (1, .agg #[.slice a n c, .slice b m d]), (2, .agg #[Vi bu, Vi se, .slice ma mn mc, .string data])] := F0.sub _
 clear F0
 refine Y.seq ?_
 refine Y.lit (by kernel_rfl) ?_
 refine Y.pv F (X.box rfl (F.ev 0 (.agg #[.slice ta tn tc, .slice ca cn cc])) X.bx) ?_;clear F ac;intro ac F
 have g := Gr.alloc w (.cells #[.slice ta tn tc, .slice ca cn cc] 25)
 have hb := heap_alloc_new w (.cells #[.slice ta tn tc, .slice ca cn cc] 25)
 have hbl : w.heap.size < (w.alloc (.cells #[.slice ta tn tc, .slice ca cn cc] 25)).heap.size := by simp
 have hC2 : RCells (w.alloc (.cells #[.slice ta tn tc, .slice ca cn cc] 25)) [(Ad w.heap.size 0, .slice ta tn tc), (Ad w.heap.size 1, .slice ca cn cc)] := (RCells.nil w).box (b := w.heap.size) #[.slice ta tn tc, .slice ca cn cc] 25 rfl
 generalize w.alloc (.cells #[.slice ta tn tc, .slice ca cn cc] 25) = w3 at *
 replace G := G.trans g
 have hC := hC2
 clear hC2
 replace hft := hft.gr g
 replace hfc := hfc.gr g
 replace hx := hx.gr g
 replace hy := hy.gr g
 replace hm := hm.gr g
 clear g hb hbl
 refine Y.pv F (X.box rfl (F.ev 1 (.agg #[.slice a n c, .slice b m d])) X.bx) ?_;clear F ac;intro ac F
 have g := Gr.alloc w3 (.cells #[.slice a n c, .slice b m d] 69)
 have hb := heap_alloc_new w3 (.cells #[.slice a n c, .slice b m d] 69)
 have hbl : w3.heap.size < (w3.alloc (.cells #[.slice a n c, .slice b m d] 69)).heap.size := by simp
 have hC2 : RCells (w3.alloc (.cells #[.slice a n c, .slice b m d] 69)) [(Ad w.heap.size 0, .slice ta tn tc), (Ad w.heap.size 1, .slice ca cn cc), (Ad w3.heap.size 0, .slice a n c), (Ad w3.heap.size 1, .slice b m d)] := hC.box (b := w3.heap.size) #[.slice a n c, .slice b m d] 69 rfl
 generalize w3.alloc (.cells #[.slice a n c, .slice b m d] 69) = w4 at *
 replace G := G.trans g
 replace hC := hC2
 clear hC2
 replace hft := hft.gr g
 replace hfc := hfc.gr g
 replace hx := hx.gr g
 replace hy := hy.gr g
 replace hm := hm.gr g
 clear g hb hbl
 refine Y.pv F (X.box rfl (F.ev 2 (.agg #[Vi bu, Vi se, .slice ma mn mc, .string data])) X.bx) ?_;clear F ac;intro ac F
 have g := Gr.alloc w4 (.cells #[Vi bu, Vi se, .slice ma mn mc, .string data] 71)
 have hb := heap_alloc_new w4 (.cells #[Vi bu, Vi se, .slice ma mn mc, .string data] 71)
 have hbl : w4.heap.size < (w4.alloc (.cells #[Vi bu, Vi se, .slice ma mn mc, .string data] 71)).heap.size := by simp
 have hC2 : RCells (w4.alloc (.cells #[Vi bu, Vi se, .slice ma mn mc, .string data] 71)) [(Ad w.heap.size 0, .slice ta tn tc), (Ad w.heap.size 1, .slice ca cn cc), (Ad w3.heap.size 0, .slice a n c), (Ad w3.heap.size 1, .slice b m d), (Ad w4.heap.size 0, Vi bu), (Ad w4.heap.size 1, Vi se), (Ad w4.heap.size 2, .slice ma mn mc), (Ad w4.heap.size 3, .string data)] := hC.box (b := w4.heap.size) #[Vi bu, Vi se, .slice ma mn mc, .string data] 71 rfl
 generalize w4.alloc (.cells #[Vi bu, Vi se, .slice ma mn mc, .string data] 71) = w5 at *
 replace G := G.trans g
 replace hC := hC2
 clear hC2
 replace hft := hft.gr g
 replace hfc := hfc.gr g
 replace hx := hx.gr g
 replace hy := hy.gr g
 replace hm := hm.gr g
 clear g hb hbl
 refine Y.pv F (X.assign rfl (X.kc (.bool false) rfl)) ?_;clear F ac;intro ac F
 refine Y.nil ?_
 replace F : Fr ac 316 [(3, Vp w.heap.size), (4, Vp w3.heap.size), (5, Vp w4.heap.size)] := F.sub _
 refine X.thenN ?_
 refine Y.seq ?_
 refine Y.seq ?_
 refine Y.lit (by kernel_rfl) ?_
 refine Y.pv F (X.field rfl (F.ev 3 (Vp w.heap.size)) (X.fld Try.underlying25 rfl (Try.siz22 _) rfl rfl)) ?_;clear F ac;intro ac F
 refine Y.pv F (X.load rfl (F.ev 32 (Vp w.heap.size)) (X.ld1 (Try.agg22 _) (hC.at 0 rfl))) ?_;clear F ac;intro ac F
 refine Y.pv F (X.len1 Try.underlying22 rfl (F.ev 33 (.slice ta tn tc))) ?_;clear F ac;intro ac F
 refine Y.pv F (X.binop rfl (F.ev 34 (Vi tn)) (X.kc (Vi 4) rfl) (X.gtrI Try.underlying3 rfl)) ?_;clear F ac;intro ac F
 refine Y.pv F (X.move rfl (F.ev 35 (.bool (decide ((4 : Int) < tn))))) ?_;clear F ac;intro ac F
 cases h6 : decide ((4 : Int) < tn) with
 | false =>
  try rw [h6] at F
  have h6p : ¬ ((4 : Int) < tn) := of_decide_eq_false h6
  refine Y.pval F (X.w1 rfl (F.yl (j := 4) (d := 36) (b := false) rfl (by kernel_rfl))) rfl (X.field rfl (F.ev 3 (Vp w.heap.size)) (X.fld Try.underlying25 rfl (Try.siz23 _) rfl rfl)) ?_;clear F ac;intro ac F
  refine Y.pval F (X.w1 rfl (F.yl (j := 4) (d := 36) (b := false) rfl (by kernel_rfl))) rfl (X.load rfl (F.ev 37 (.pointer (some ⟨w.heap.size, 1, none⟩))) (X.ld1 (Try.agg23 _) (hC.at 1 rfl))) ?_;clear F ac;intro ac F
  refine Y.pval F (X.w1 rfl (F.yl (j := 4) (d := 36) (b := false) rfl (by kernel_rfl))) rfl (X.len1 Try.underlying23 rfl (F.ev 38 (.slice ca cn cc))) ?_;clear F ac;intro ac F
  refine Y.pval F (X.w1 rfl (F.yl (j := 4) (d := 36) (b := false) rfl (by kernel_rfl))) rfl (X.binop rfl (F.ev 39 (Vi cn)) (X.kc (Vi 70) rfl) (X.gtrI Try.underlying3 rfl)) ?_;clear F ac;intro ac F
  refine Y.pv F (X.pickF rfl (F.ev 36 (.bool false)) (F.ev 40 (.bool (decide ((70 : Int) < cn))))) ?_;clear F ac;intro ac F
  refine Y.pv F (X.move rfl (F.ev 41 (.bool (decide ((70 : Int) < cn))))) ?_;clear F ac;intro ac F
  cases h7 : decide ((70 : Int) < cn) with
  | false =>
   try rw [h7] at F
   have h7p : ¬ ((70 : Int) < cn) := of_decide_eq_false h7
   refine Y.pval F (X.w1 rfl (F.yl (j := 10) (d := 42) (b := false) rfl (by kernel_rfl))) rfl (X.index rfl (F.ev 4 (Vp w3.heap.size)) (X.kc (Vi 0) rfl) (Y.idxA (k := 0) Try.underlying69 (Try.siz26 _) (by decide) (by omega) (by omega) rfl)) ?_;clear F ac;intro ac F
   refine Y.pval F (X.w1 rfl (F.yl (j := 10) (d := 42) (b := false) rfl (by kernel_rfl))) rfl (X.load rfl (F.ev 43 (Vp w3.heap.size)) (X.ld1 (Try.agg26 _) (hC.at 2 rfl))) ?_;clear F ac;intro ac F
   refine Y.pval F (X.w1 rfl (F.yl (j := 10) (d := 42) (b := false) rfl (by kernel_rfl))) rfl (X.len1 Try.underlying26 rfl (F.ev 44 (.slice a n c))) ?_;clear F ac;intro ac F
   refine Y.pval F (X.w1 rfl (F.yl (j := 10) (d := 42) (b := false) rfl (by kernel_rfl))) rfl (X.binop rfl (F.ev 45 (Vi n)) (X.kc (Vi 10) rfl) (X.gtrI Try.underlying3 rfl)) ?_;clear F ac;intro ac F
   refine Y.pv F (X.pickF rfl (F.ev 42 (.bool false)) (F.ev 46 (.bool (decide ((10 : Int) < n))))) ?_;clear F ac;intro ac F
   refine Y.pv F (X.move rfl (F.ev 47 (.bool (decide ((10 : Int) < n))))) ?_;clear F ac;intro ac F
   cases h8 : decide ((10 : Int) < n) with
   | false =>
    try rw [h8] at F
    have h8p : ¬ ((10 : Int) < n) := of_decide_eq_false h8
    refine Y.pval F (X.w1 rfl (F.yl (j := 16) (d := 48) (b := false) rfl (by kernel_rfl))) rfl (X.index rfl (F.ev 4 (Vp w3.heap.size)) (X.kc (Vi 1) rfl) (Y.idxA (k := 1) Try.underlying69 (Try.siz26 _) (by decide) (by omega) (by omega) rfl)) ?_;clear F ac;intro ac F
    refine Y.pval F (X.w1 rfl (F.yl (j := 16) (d := 48) (b := false) rfl (by kernel_rfl))) rfl (X.load rfl (F.ev 49 (.pointer (some ⟨w3.heap.size, 1, none⟩))) (X.ld1 (Try.agg26 _) (hC.at 3 rfl))) ?_;clear F ac;intro ac F
    refine Y.pval F (X.w1 rfl (F.yl (j := 16) (d := 48) (b := false) rfl (by kernel_rfl))) rfl (X.len1 Try.underlying26 rfl (F.ev 50 (.slice b m d))) ?_;clear F ac;intro ac F
    refine Y.pval F (X.w1 rfl (F.yl (j := 16) (d := 48) (b := false) rfl (by kernel_rfl))) rfl (X.binop rfl (F.ev 51 (Vi m)) (X.kc (Vi 10) rfl) (X.gtrI Try.underlying3 rfl)) ?_;clear F ac;intro ac F
    refine Y.pv F (X.pickF rfl (F.ev 48 (.bool false)) (F.ev 52 (.bool (decide ((10 : Int) < m))))) ?_;clear F ac;intro ac F
    refine Y.pv F (X.move rfl (F.ev 53 (.bool (decide ((10 : Int) < m))))) ?_;clear F ac;intro ac F
    cases h9 : decide ((10 : Int) < m) with
    | false =>
     try rw [h9] at F
     have h9p : ¬ ((10 : Int) < m) := of_decide_eq_false h9
     refine Y.pval F (X.w1 rfl (F.yl (j := 22) (d := 54) (b := false) rfl (by kernel_rfl))) rfl (X.field rfl (F.ev 5 (Vp w4.heap.size)) (X.fld Try.underlying71 rfl (Try.siz26 _) rfl rfl)) ?_;clear F ac;intro ac F
     refine Y.pval F (X.w1 rfl (F.yl (j := 22) (d := 54) (b := false) rfl (by kernel_rfl))) rfl (X.load rfl (F.ev 55 (.pointer (some ⟨w4.heap.size, 2, none⟩))) (X.ld1 (Try.agg26 _) (hC.at 6 rfl))) ?_;clear F ac;intro ac F
     refine Y.pval F (X.w1 rfl (F.yl (j := 22) (d := 54) (b := false) rfl (by kernel_rfl))) rfl (X.len1 Try.underlying26 rfl (F.ev 56 (.slice ma mn mc))) ?_;clear F ac;intro ac F
     refine Y.pval F (X.w1 rfl (F.yl (j := 22) (d := 54) (b := false) rfl (by kernel_rfl))) rfl (X.binop rfl (F.ev 57 (Vi mn)) (X.kc (Vi 20) rfl) (X.gtrI Try.underlying3 rfl)) ?_;clear F ac;intro ac F
     refine Y.pv F (X.pickF rfl (F.ev 54 (.bool false)) (F.ev 58 (.bool (decide ((20 : Int) < mn))))) ?_;clear F ac;intro ac F
     refine Y.nil ?_
     replace F : Fr ac 316 [(3, Vp w.heap.size), (4, Vp w3.heap.size), (5, Vp w4.heap.size), (59, .bool (decide ((20 : Int) < mn)))] := F.sub _
     refine X.thenN ?_
     cases h10 : decide ((20 : Int) < mn) with
     | false =>
      try rw [h10] at F
      have h10p : ¬ ((20 : Int) < mn) := of_decide_eq_false h10
      refine Y.condF (F.ev 59 (.bool false)) ?_
      refine Y.skip ?_
      refine X.thenN ?_
      refine Y.seq ?_
      refine Y.lit (by kernel_rfl) ?_
      refine Y.pv F (X.bs rfl rfl (Try.bs23_0 _)) ?_;clear F ac;intro ac F
      have g := Gr.alloc w5 (.cells #[] 107)
      have hb := heap_alloc_new w5 (.cells #[] 107)
      have hbl : w5.heap.size < (w5.alloc (.cells #[] 107)).heap.size := by simp
      generalize w5.alloc (.cells #[] 107) = w11 at *
      replace G := G.trans g
      replace hC := hC.gr g
      replace hft := hft.gr g
      replace hfc := hfc.gr g
      replace hx := hx.gr g
      replace hy := hy.gr g
      replace hm := hm.gr g
      have hlit := hb
      clear g hb hbl
      refine Y.pv F (X.field rfl (F.ev 3 (Vp w.heap.size)) (X.fld Try.underlying25 rfl (Try.siz23 _) rfl rfl)) ?_;clear F ac;intro ac F
      refine Y.pv F (X.load rfl (F.ev 62 (.pointer (some ⟨w.heap.size, 1, none⟩))) (X.ld1 (Try.agg23 _) (hC.at 1 rfl))) ?_;clear F ac;intro ac F
      refine Y.wpL_plain rfl fun _ hK => wp_lit Try.underlying23 Try.info107 rfl (F.ev 61 (.slice (some ⟨w5.heap.size, 0, none⟩) 0 0)) (F.ev 63 (.slice ca cn cc)) ⟨_, hlit⟩ hfc.nilZ (by rw [flatC_len, hfc.len]) hfc.src (flatC_one f.cl) (by omega) (by decide) (fun cg ccg w12 hrow g => hK _ _ ?_)
      refine Y.pput F rfl ?_
      clear F ac hlit
      intro ac F
      obtain ⟨rest, hrow⟩ := hrow
      have hcg := cl_row hrow hfc.len (by omega)
      replace G := G.trans g
      replace hC := hC.gr g
      replace hft := hft.gr g
      replace hfc := hfc.gr g
      replace hx := hx.gr g
      replace hy := hy.gr g
      replace hm := hm.gr g
      clear g
      clear hrow
      refine Y.pv F (Y.bd rfl (Y.bAt1 (F.ev 64 (.slice (some ⟨cg, 0, none⟩) cn ccg))) (Try.bd25_v _ _ _ _)) ?_;clear F ac;intro ac F
      have hft_ := hft
      have hfc_ := hfc
      have hx_ := hx
      have hy_ := hy
      have hm_ := hm
      have hcg_ := hcg
      have hC_ := hC
      have G_ := G
      refine Y.pv F (Y.al rfl (Try.new25v _)) ?_;clear F ac;intro ac F
      refine Y.punit F (X.w0 rfl) rfl (X.store rfl (F.ev 7 (Vp w12.heap.size)) (F.ev 65 (.agg #[.slice none 0 0, .slice (some ⟨cg, 0, none⟩) cn ccg])) (Y.stNew [.slice none 0 0, .slice (some ⟨cg, 0, none⟩) cn ccg] [.slice none 0 0, .slice none 0 0] (Try.siz25 _) rfl rfl)) ?_;clear F ac;intro ac F
      have g := Gr.alloc w12 (.cells #[.slice none 0 0, .slice (some ⟨cg, 0, none⟩) cn ccg] 25)
      have hb := heap_alloc_new w12 (.cells #[.slice none 0 0, .slice (some ⟨cg, 0, none⟩) cn ccg] 25)
      have hbl : w12.heap.size < (w12.alloc (.cells #[.slice none 0 0, .slice (some ⟨cg, 0, none⟩) cn ccg] 25)).heap.size := by simp
      generalize w12.alloc (.cells #[.slice none 0 0, .slice (some ⟨cg, 0, none⟩) cn ccg] 25) = w13 at *
      replace G := G.trans g
      replace hC := hC.gr g
      replace hft := hft.gr g
      replace hfc := hfc.gr g
      replace hx := hx.gr g
      replace hy := hy.gr g
      replace hm := hm.gr g
      replace hcg := hcg.gr g
      have hFg : FgI w12 _ (.slice none 0 0) (.slice (some ⟨cg, 0, none⟩) cn ccg) [] := ⟨g, hb, OutR.nil _ _⟩
      clear g hb hbl
      refine Y.nil ?_
      replace F : Fr ac 316 [(3, Vp w.heap.size), (4, Vp w3.heap.size), (5, Vp w4.heap.size), (7, Vp w12.heap.size)] := F.sub _
      refine X.thenN ?_
      refine Y.seq ?_
      refine Y.seq ?_
      refine Y.lit (by kernel_rfl) ?_
      refine Y.pv F (X.assign rfl (X.kc (Vi 0) rfl)) ?_;clear F ac;intro ac F
      refine Y.nil ?_
      replace F : Fr ac 316 [(3, Vp w.heap.size), (4, Vp w3.heap.size), (5, Vp w4.heap.size), (7, Vp w12.heap.size), (8, Vi 0)] := F.sub _
      refine X.thenN ?_
      refine Y.block ?_
      refine Y.loop (fun me_ ac wr => ∃ (i : Nat) (v : Value), me_ = tn - i ∧ i ≤ tn ∧ FgI w12 wr v (.slice (some ⟨cg, 0, none⟩) cn ccg) (f.times.take i) ∧ Fr ac 316 [(3, Vp w.heap.size), (4, Vp w3.heap.size), (5, Vp w4.heap.size), (7, Vp w12.heap.size), (8, Vi i)]) _ ⟨0, .slice none 0 0, rfl, Nat.zero_le _, hFg, F.sub _⟩ ?_
      clear F ac G hC hFg hft hfc hx hy hm hcg
      intro me_ ac w14 hI
      obtain ⟨i, v, rfl, hi0, hFg, F⟩ := hI
      have G := G_.trans hFg.g
      have hC := hC_.gr hFg.g
      have hft := hft_.gr hFg.g
      have hfc := hfc_.gr hFg.g
      have hx := hx_.gr hFg.g
      have hy := hy_.gr hFg.g
      have hm := hm_.gr hFg.g
      have hcg := hcg_.gr hFg.g
      replace hC : RCells w14 [(Ad w.heap.size 0, .slice ta tn tc), (Ad w.heap.size 1, .slice ca cn cc), (Ad w3.heap.size 0, .slice a n c), (Ad w3.heap.size 1, .slice b m d), (Ad w4.heap.size 0, Vi bu), (Ad w4.heap.size 1, Vi se), (Ad w4.heap.size 2, .slice ma mn mc), (Ad w4.heap.size 3, .string data), (Ad w12.heap.size 0, v)] := hC.append ((RCells.cons hFg.c0 (RCells.nil _)))
      refine Y.seq ?_
      refine Y.seq ?_
      refine Y.lit (by kernel_rfl) ?_
      refine Y.pv F (X.move rfl (F.ev 8 (Vi i))) ?_;clear F ac;intro ac F
      refine Y.pv F (X.field rfl (F.ev 3 (Vp w.heap.size)) (X.fld Try.underlying25 rfl (Try.siz22 _) rfl rfl)) ?_;clear F ac;intro ac F
      refine Y.pv F (X.load rfl (F.ev 67 (Vp w.heap.size)) (X.ld1 (Try.agg22 _) (hC.at 0 rfl))) ?_;clear F ac;intro ac F
      refine Y.pv F (X.len1 Try.underlying22 rfl (F.ev 68 (.slice ta tn tc))) ?_;clear F ac;intro ac F
      refine Y.pv F (X.binop rfl (F.ev 66 (Vi i)) (F.ev 69 (Vi tn)) (X.lssI Try.underlying3 rfl)) ?_;clear F ac;intro ac F
      refine Y.nil ?_
      replace F : Fr ac 316 [(3, Vp w.heap.size), (4, Vp w3.heap.size), (5, Vp w4.heap.size), (7, Vp w12.heap.size), (8, Vi i), (70, .bool (decide ((i : Int) < tn)))] := F.sub _
      refine X.thenN ?_
      cases h15 : decide ((i : Int) < tn) with
      | false =>
       try rw [h15] at F
       have h15p : ¬ ((i : Int) < tn) := of_decide_eq_false h15
       obtain rfl : tn = i := by omega
       rw [List.take_of_length_le (by have := hft.len; omega)] at hFg
       obtain ⟨ra, rcc, rfl, hft2, hrcc⟩ := hFg.done (by have := hft.len; have := hft.lt; omega)
       rw [hft.len] at hft2 hFg
       replace hC := hC_.gr hFg.g
       replace hC : RCells w14 [(Ad w.heap.size 0, .slice ta tn tc), (Ad w.heap.size 1, .slice ca cn cc), (Ad w3.heap.size 0, .slice a n c), (Ad w3.heap.size 1, .slice b m d), (Ad w4.heap.size 0, Vi bu), (Ad w4.heap.size 1, Vi se), (Ad w4.heap.size 2, .slice ma mn mc), (Ad w4.heap.size 3, .string data), (Ad w12.heap.size 0, .slice ra tn rcc), (Ad w12.heap.size 1, .slice (some ⟨cg, 0, none⟩) cn ccg)] := hC.append ((RCells.cons hFg.c0 (RCells.cons hFg.c1 (RCells.nil _))))
       have hf2 : FlAt w14 ra tn (some ⟨cg, 0, none⟩) cn f := ⟨hft2, hcg⟩
       clear hFg hft2
       refine Y.condF (F.ev 70 (.bool false)) ?_
       refine Y.exit ?_
       refine X.thenX ?_
       refine X.thenX ?_
       refine X.blockX ?_
       refine X.thenN ?_
       refine Y.seq ?_
       refine Y.region F [some (.agg #[.slice ra tn rcc, .slice (some ⟨cg, 0, none⟩) cn ccg]), some (Vp w3.heap.size), some (.slice a n c), none, some (.pointer (some ⟨w3.heap.size, 1, none⟩)), some (.slice b m d), none, some (Vp w4.heap.size), some (Vi bu), none, none, none, some (Vi (planE f xs ys bu)), none, some (Vi (planE f xs ys bu))] [(3, MP.intsG n xs), (6, MP.intsG m ys), (9, MP.plan (planV f xs ys bu) (planE f xs ys bu)), (10, MP.plan (planV f xs ys bu) (planE f xs ys bu)), (11, MP.rowsC (planV f xs ys bu)), (13, MP.rowsC (planV f xs ys bu))] rfl ⟨by kernel_rfl, of_decide_eq_true (by kernel_rfl), by kernel_rfl, by kernel_rfl, by kernel_rfl⟩ ⟨?_, ?_, ?_, ?_, ?_, ?_, ?_, ?_, ?_, ?_, ?_, ?_, ?_, ?_, ?_, trivial⟩ ?_
       ·intro ac done u W Sx hR
        have g : Gr w14 W := hR.1
        exact X.vl (X.load rfl (Sx.ev 7 (Vp w12.heap.size)) (X.ldN (Try.agg25 _) (Try.siz25 _) (Y.atz (⟨w12.heap.size, 0, none⟩) (Y.AtFrom.cons ((hC.gr g).at 8 rfl) (Y.AtFrom.cons ((hC.gr g).at 9 rfl) (Y.AtFrom.nil _ _ _)))))) hR.st0
       ·intro ac done u W Sx hR
        exact X.vl (X.index rfl (Sx.ev 4 (Vp w3.heap.size)) (X.kc (Vi 0) rfl) (Y.idxA (k := 0) Try.underlying69 (Try.siz26 _) (by decide) (by omega) (by omega) rfl)) hR.st0
       ·intro ac done u W Sx hR
        have g : Gr w14 W := hR.1
        exact X.vl (X.load rfl (Sx.ev 94 (Vp w3.heap.size)) (X.ld1 (Try.agg26 _) ((hC.gr g).at 2 rfl))) hR.st0
       ·intro ac done u W Sx hR
        have g : Gr w14 W := hR.1
        refine X.call (X.w0 rfl) (X.enter (F := 47) rfl (X.kc (.func (.func 47) #[] #[]) rfl) (X.a1 (Sx.ev 95 (.slice a n c))) (enters_of Try.func47 (by kernel_rfl) rfl _)) (ints_mp a n c xs W (hx.gr g) (by omega)) ?_
        rintro e W2 ⟨v, rfl, hp, g2⟩
        exact ⟨_, rfl, X.un rfl, hR.new (q := MP.intsG n xs) g2 rfl hp⟩
       ·intro ac done u W Sx hR
        exact X.vl (X.index rfl (Sx.ev 4 (Vp w3.heap.size)) (X.kc (Vi 1) rfl) (Y.idxA (k := 1) Try.underlying69 (Try.siz26 _) (by decide) (by omega) (by omega) rfl)) hR.st0
       ·intro ac done u W Sx hR
        have g : Gr w14 W := hR.1
        exact X.vl (X.load rfl (Sx.ev 97 (.pointer (some ⟨w3.heap.size, 1, none⟩))) (X.ld1 (Try.agg26 _) ((hC.gr g).at 3 rfl))) hR.st0
       ·intro ac done u W Sx hR
        have g : Gr w14 W := hR.1
        refine X.call (X.w0 rfl) (X.enter (F := 47) rfl (X.kc (.func (.func 47) #[] #[]) rfl) (X.a1 (Sx.ev 98 (.slice b m d))) (enters_of Try.func47 (by kernel_rfl) rfl _)) (ints_mp b m d ys W (hy.gr g) (by omega)) ?_
        rintro e W2 ⟨v, rfl, hp, g2⟩
        exact ⟨_, rfl, X.un rfl, hR.new (q := MP.intsG m ys) g2 rfl hp⟩
       ·intro ac done u W Sx hR
        exact X.vl (X.field rfl (Sx.ev 5 (Vp w4.heap.size)) (X.fld Try.underlying71 rfl (Try.siz3 _) rfl rfl)) hR.st0
       ·intro ac done u W Sx hR
        have g : Gr w14 W := hR.1
        exact X.vl (X.load rfl (Sx.ev 100 (Vp w4.heap.size)) (X.ld1 (Try.agg3 _) ((hC.gr g).at 4 rfl))) hR.st0
       ·intro ac done u W Sx hR
        have g : Gr w14 W := hR.1
        obtain ⟨g16, gc16, e3, hG16, h316⟩ := hR.get (i := 3) (MP.intsG n xs) rfl (Sx.an 3 (by kernel_rfl))
        obtain ⟨g17, gc17, e6, hG17, h317⟩ := hR.get (i := 6) (MP.intsG m ys) rfl (Sx.an 6 (by kernel_rfl))
        refine X.call (X.w0 rfl) (X.enter (F := 17) rfl (X.kc (.func (.func 17) #[] #[]) rfl) (X.a4 (Sx.ev 93 (.agg #[.slice ra tn rcc, .slice (some ⟨cg, 0, none⟩) cn ccg])) ((Sx.own 3 96 rfl).trans e3) ((Sx.own 6 99 rfl).trans e6) (Sx.ev 101 (Vi bu))) (enters_of Try.func17 (by kernel_rfl) rfl _)) (plan_mp ra (some ⟨cg, 0, none⟩) (some ⟨g16, 0, none⟩) (some ⟨g17, 0, none⟩) tn rcc cn ccg n gc16 m gc17 f xs ys bu W (hf2.gr g) hG16 hG17) ?_
        rintro e W2 ⟨v, rfl, hp, g2⟩
        exact ⟨_, rfl, X.un rfl, hR.new (q := MP.plan (planV f xs ys bu) (planE f xs ys bu)) g2 rfl hp⟩
       ·intro ac done u W Sx hR
        obtain ⟨pa18, pn18, pc18, e9, hR18, hcp18⟩ := hR.get (i := 9) (MP.plan (planV f xs ys bu) (planE f xs ys bu)) rfl (Sx.an 9 (by kernel_rfl))
        exact X.valN (X.w0 rfl) rfl (X.move rfl (Sx.own 9 102 rfl)) (hR.new (q := MP.plan (planV f xs ys bu) (planE f xs ys bu)) (Gr.refl _) rfl (hR.get (i := 9) (MP.plan (planV f xs ys bu) (planE f xs ys bu)) rfl (Sx.an 9 (by kernel_rfl))))
       ·intro ac done u W Sx hR
        obtain ⟨pa19, pn19, pc19, e10, hR19, hcp19⟩ := hR.get (i := 10) (MP.plan (planV f xs ys bu) (planE f xs ys bu)) rfl (Sx.an 10 (by kernel_rfl))
        exact X.valN (X.w0 rfl) rfl (X.extract rfl ((Sx.own 10 92 rfl).trans e10) rfl) (hR.new (q := MP.rowsC (planV f xs ys bu)) (Gr.refl _) rfl ⟨_, _, _, rfl, hR19, hcp19⟩)
       ·intro ac done u W Sx hR
        obtain ⟨pa19, pn19, pc19, e10, hR19, hcp19⟩ := hR.get (i := 10) (MP.plan (planV f xs ys bu) (planE f xs ys bu)) rfl (Sx.an 10 (by kernel_rfl))
        exact X.vl (X.extract rfl ((Sx.own 10 92 rfl).trans e10) rfl) hR.st0
       ·intro ac done u W Sx hR
        obtain ⟨pa20, pn20, pc20, e11, hR20, hcp20⟩ := hR.get (i := 11) (MP.rowsC (planV f xs ys bu)) rfl (Sx.an 11 (by kernel_rfl))
        exact X.valN (X.w0 rfl) rfl (X.assign rfl (Sx.own 11 103 rfl)) (hR.new (q := MP.rowsC (planV f xs ys bu)) (Gr.refl _) rfl (hR.get (i := 11) (MP.rowsC (planV f xs ys bu)) rfl (Sx.an 11 (by kernel_rfl))))
       ·intro ac done u W Sx hR
        exact X.vl (X.assign rfl (Sx.ev 104 (Vi (planE f xs ys bu)))) hR.st0
       intro ac u w22 hs hd hl ho hR
       have g : Gr w14 w22 := hR.1
       obtain ⟨g16, gc16, e3, hG16, h316⟩ := hR.get (i := 3) (MP.intsG n xs) rfl rfl
       obtain ⟨g17, gc17, e6, hG17, h317⟩ := hR.get (i := 6) (MP.intsG m ys) rfl rfl
       obtain ⟨pa18, pn18, pc18, e9, hR18, hcp18⟩ := hR.get (i := 9) (MP.plan (planV f xs ys bu) (planE f xs ys bu)) rfl rfl
       obtain ⟨pa19, pn19, pc19, e10, hR19, hcp19⟩ := hR.get (i := 10) (MP.plan (planV f xs ys bu) (planE f xs ys bu)) rfl rfl
       obtain ⟨pa20, pn20, pc20, e11, hR20, hcp20⟩ := hR.get (i := 11) (MP.rowsC (planV f xs ys bu)) rfl rfl
       obtain ⟨pa21, pn21, pc21, e13, hR21, hcp21⟩ := hR.get (i := 13) (MP.rowsC (planV f xs ys bu)) rfl rfl
       replace F : Fr ac 316 [(4, Vp w3.heap.size), (5, Vp w4.heap.size), (7, Vp w12.heap.size), (10, Vi (planE f xs ys bu))] := X.fr hs hd hl _ (by kernel_rfl)
       replace F := F.add (ho 13 9 rfl) e13
       replace F : Fr ac 316 [(4, Vp w3.heap.size), (5, Vp w4.heap.size), (7, Vp w12.heap.size), (9, .slice pa21 pn21 pc21), (10, Vi (planE f xs ys bu))] := F.sub _
       clear e3 e6 e9 e10 e11 e13
       clear hs hd hl ho hR
       replace G := G.trans g
       replace hC := hC.gr g
       replace hft := hft.gr g
       replace hx := hx.gr g
       replace hy := hy.gr g
       replace hm := hm.gr g
       replace hf2 := hf2.gr g
       clear g
       obtain ⟨PL, hPL⟩ : ∃ z, z = planV f xs ys bu := ⟨_, rfl⟩
       rw [← hPL] at hR21
       have hpl := hR21.len
       refine X.thenN ?_
       refine Y.seq ?_
       refine Y.seq ?_
       refine Y.lit (by kernel_rfl) ?_
       refine Y.pv F (X.move rfl (F.ev 10 (Vi (planE f xs ys bu)))) ?_;clear F ac;intro ac F
       refine Y.pv F (X.binop rfl (F.ev 105 (Vi (planE f xs ys bu))) (X.kc (Vi 0) rfl) (X.neqI Try.underlying31 rfl)) ?_;clear F ac;intro ac F
       refine Y.nil ?_
       replace F : Fr ac 316 [(4, Vp w3.heap.size), (5, Vp w4.heap.size), (7, Vp w12.heap.size), (9, .slice pa21 pn21 pc21), (106, .bool ((planE f xs ys bu : Int) != 0))] := F.sub _
       refine X.thenN ?_
       cases h23 : ((planE f xs ys bu : Int) != 0) with
       | false =>
        try rw [h23] at F
        have h23p : (planE f xs ys bu : Int) = 0 := by simpa using h23
        have hE := h23p
        obtain ⟨hP, hlast, hcp0, hst_, _⟩ := planV_holds hE
        rw [← hPL] at hP hlast hcp0
        clear hst_
        obtain ⟨hchk, hwx, hb0⟩ := cpR_chk hcp0
        have hn64 := hP.n64
        have hn6 := hP.ok.n6
        have hnt : n = f.times.length := by rw [← hx.len]; exact hP.a.len
        refine Y.condF (F.ev 106 (.bool false)) ?_
        refine Y.skip ?_
        refine X.thenN ?_
        refine Y.seq ?_
        refine Y.lit (by kernel_rfl) ?_
        refine Y.pv F (X.index rfl (F.ev 4 (Vp w3.heap.size)) (X.kc (Vi 0) rfl) (Y.idxA (k := 0) Try.underlying69 (Try.siz26 _) (by decide) (by omega) (by omega) rfl)) ?_;clear F ac;intro ac F
        refine Y.pv F (X.load rfl (F.ev 113 (Vp w3.heap.size)) (X.ld1 (Try.agg26 _) (hC.at 2 rfl))) ?_;clear F ac;intro ac F
        refine Y.pcall F (X.w0 rfl) rfl (X.enter (F := 47) rfl (X.kc (.func (.func 47) #[] #[]) rfl) (X.a1 (F.ev 114 (.slice a n c))) (enters_of Try.func47 (by kernel_rfl) rfl _)) (ints_mp a n c xs w22 hx (by omega)) ?_
        clear F ac
        rintro e w25 ⟨v_, rfl, hp, g⟩
        obtain ⟨g24, gc24, rfl, hG24, h324⟩ := hp
        refine ⟨_, rfl, ?_⟩
        intro ac F
        replace G := G.trans g
        replace hC := hC.gr g
        replace hft := hft.gr g
        replace hx := hx.gr g
        replace hy := hy.gr g
        replace hm := hm.gr g
        replace hf2 := hf2.gr g
        replace hR21 := hR21.gr g
        clear g
        refine Y.pv F (X.assign rfl (F.ev 115 (.slice (some ⟨g24, 0, none⟩) n gc24))) ?_;clear F ac;intro ac F
        refine Y.nil ?_
        replace F : Fr ac 316 [(4, Vp w3.heap.size), (5, Vp w4.heap.size), (7, Vp w12.heap.size), (9, .slice pa21 pn21 pc21), (11, .slice (some ⟨g24, 0, none⟩) n gc24)] := F.sub _
        refine X.thenN ?_
        refine Y.seq ?_
        refine Y.seq ?_
        refine Y.lit (by kernel_rfl) ?_
        refine Y.pv F (X.assign rfl (X.kc (Vi 0) rfl)) ?_;clear F ac;intro ac F
        refine Y.nil ?_
        replace F : Fr ac 316 [(4, Vp w3.heap.size), (5, Vp w4.heap.size), (7, Vp w12.heap.size), (9, .slice pa21 pn21 pc21), (11, .slice (some ⟨g24, 0, none⟩) n gc24), (12, Vi 0)] := F.sub _
        refine X.thenN ?_
        refine Y.block ?_
        have hftB := hft
        have hxB := hx
        have hyB := hy
        have hmB := hm
        have hf2B := hf2
        have hR21B := hR21
        have hG24B := hG24
        have hCB := hC
        have GB := G
        refine Y.loop (fun me_ ac wr => ∃ (i : Nat) (na2 : Option Addr) (nc2 : Nat), me_ = pn21 - i ∧ Gr w25 wr ∧ i ≤ pn21 ∧ Ints wr na2 n (pAt xs PL i) ∧ Fr ac 316 [(4, Vp w3.heap.size), (5, Vp w4.heap.size), (7, Vp w12.heap.size), (9, .slice pa21 pn21 pc21), (11, .slice na2 n nc2), (12, Vi i)]) _ ⟨0, (some ⟨g24, 0, none⟩), gc24, rfl, Gr.refl _, Nat.zero_le _, hG24, F.sub _⟩ ?_
        clear F
        intro me_ ac w26 hI
        obtain ⟨i, na2, nc2, rfl, gr, hi0, hnow, F⟩ := hI
        replace G := GB.trans gr
        replace hC := hCB.gr gr
        replace hft := hftB.gr gr
        replace hx := hxB.gr gr
        replace hy := hyB.gr gr
        replace hm := hmB.gr gr
        replace hf2 := hf2B.gr gr
        replace hR21 := hR21B.gr gr
        replace hG24 := hG24B.gr gr
        have GB_ := gr
        clear gr
        refine Y.seq ?_
        refine Y.seq ?_
        refine Y.lit (by kernel_rfl) ?_
        refine Y.pv F (X.move rfl (F.ev 12 (Vi i))) ?_;clear F ac;intro ac F
        refine Y.pv F (X.move rfl (F.ev 9 (.slice pa21 pn21 pc21))) ?_;clear F ac;intro ac F
        refine Y.pv F (X.len1 Try.underlying22 rfl (F.ev 117 (.slice pa21 pn21 pc21))) ?_;clear F ac;intro ac F
        refine Y.pv F (X.binop rfl (F.ev 116 (Vi i)) (F.ev 118 (Vi pn21)) (X.lssI Try.underlying3 rfl)) ?_;clear F ac;intro ac F
        refine Y.nil ?_
        replace F : Fr ac 316 [(4, Vp w3.heap.size), (5, Vp w4.heap.size), (7, Vp w12.heap.size), (9, .slice pa21 pn21 pc21), (11, .slice na2 n nc2), (12, Vi i), (119, .bool (decide ((i : Int) < pn21)))] := F.sub _
        refine X.thenN ?_
        cases h27 : decide ((i : Int) < pn21) with
        | false =>
         try rw [h27] at F
         have h27p : ¬ ((i : Int) < pn21) := of_decide_eq_false h27
         obtain rfl : pn21 = i := by omega
         rw [show pAt xs PL pn21 = ys by rw [← hpl, pAt_end]; exact hlast] at hnow
         refine Y.condF (F.ev 119 (.bool false)) ?_
         refine Y.exit ?_
         refine X.thenX ?_
         refine X.thenX ?_
         refine X.blockX ?_
         refine X.thenN ?_
         refine Y.seq ?_
         refine Y.seq ?_
         refine Y.lit (by kernel_rfl) ?_
         refine Y.pv F (X.move rfl (F.ev 11 (.slice na2 n nc2))) ?_;clear F ac;intro ac F
         refine Y.pv F (X.index rfl (F.ev 4 (Vp w3.heap.size)) (X.kc (Vi 1) rfl) (Y.idxA (k := 1) Try.underlying69 (Try.siz26 _) (by decide) (by omega) (by omega) rfl)) ?_;clear F ac;intro ac F
         refine Y.pv F (X.load rfl (F.ev 204 (.pointer (some ⟨w3.heap.size, 1, none⟩))) (X.ld1 (Try.agg26 _) (hC.at 3 rfl))) ?_;clear F ac;intro ac F
         refine Y.pcall F (X.w0 rfl) rfl (X.enter (F := 48) rfl (X.kc (.func (.func 48) #[] #[]) rfl) (X.a2 (F.ev 203 (.slice na2 n nc2)) (F.ev 205 (.slice b m d))) (enters_of Try.func48 (by kernel_rfl) rfl _)) (by have hq := same_top na2 b n nc2 m d ys ys w26 hnow hy; rw [decide_eq_true rfl] at hq; exact hq) ?_
         clear F ac
         rintro e w29 ⟨rfl, g⟩
         refine ⟨_, rfl, ?_⟩
         intro ac F
         replace G := G.trans g
         replace hC := hC.gr g
         replace GB_ := GB_.trans g
         replace hft := hft.gr g
         replace hx := hx.gr g
         replace hy := hy.gr g
         replace hm := hm.gr g
         replace hf2 := hf2.gr g
         replace hR21 := hR21.gr g
         replace hG24 := hG24.gr g
         replace hnow := hnow.gr g
         clear g
         refine Y.pv F (X.notB rfl (F.ev 206 (.bool true)) rfl) ?_;clear F ac;intro ac F
         refine Y.nil ?_
         replace F : Fr ac 316 [(4, Vp w3.heap.size), (5, Vp w4.heap.size), (7, Vp w12.heap.size), (9, .slice pa21 pn21 pc21), (207, .bool false)] := F.sub _
         refine X.thenN ?_
         refine Y.condF (F.ev 207 (.bool false)) ?_
         refine Y.skip ?_
         refine X.thenN ?_
         refine Y.seq ?_
         refine Y.region F [some (.agg #[.slice ra tn rcc, .slice (some ⟨cg, 0, none⟩) cn ccg]), some (Vp w3.heap.size), some (.slice a n c), none, some (.slice pa21 pn21 pc21), some (Vp w4.heap.size), some (Vi bu), some (.pointer (some ⟨w4.heap.size, 2, none⟩)), some (.slice ma mn mc), none, none, none, none, some (Vi (intE f xs PL bu ms)), none, some (Vi (intE f xs PL bu ms))] [(3, MP.intsG n xs), (9, MP.intsG mn ms), (10, MP.plan (intV f xs PL bu ms) (intE f xs PL bu ms)), (11, MP.plan (intV f xs PL bu ms) (intE f xs PL bu ms)), (12, MP.rowsC (intV f xs PL bu ms)), (14, MP.rowsC (intV f xs PL bu ms))] rfl ⟨by kernel_rfl, of_decide_eq_true (by kernel_rfl), by kernel_rfl, by kernel_rfl, by kernel_rfl⟩ ⟨?_, ?_, ?_, ?_, ?_, ?_, ?_, ?_, ?_, ?_, ?_, ?_, ?_, ?_, ?_, ?_, trivial⟩ ?_
         ·intro ac done u W Sx hR
          have g : Gr w29 W := hR.1
          exact X.vl (X.load rfl (Sx.ev 7 (Vp w12.heap.size)) (X.ldN (Try.agg25 _) (Try.siz25 _) (Y.atz (⟨w12.heap.size, 0, none⟩) (Y.AtFrom.cons ((hC.gr g).at 8 rfl) (Y.AtFrom.cons ((hC.gr g).at 9 rfl) (Y.AtFrom.nil _ _ _)))))) hR.st0
         ·intro ac done u W Sx hR
          exact X.vl (X.index rfl (Sx.ev 4 (Vp w3.heap.size)) (X.kc (Vi 0) rfl) (Y.idxA (k := 0) Try.underlying69 (Try.siz26 _) (by decide) (by omega) (by omega) rfl)) hR.st0
         ·intro ac done u W Sx hR
          have g : Gr w29 W := hR.1
          exact X.vl (X.load rfl (Sx.ev 210 (Vp w3.heap.size)) (X.ld1 (Try.agg26 _) ((hC.gr g).at 2 rfl))) hR.st0
         ·intro ac done u W Sx hR
          have g : Gr w29 W := hR.1
          refine X.call (X.w0 rfl) (X.enter (F := 47) rfl (X.kc (.func (.func 47) #[] #[]) rfl) (X.a1 (Sx.ev 211 (.slice a n c))) (enters_of Try.func47 (by kernel_rfl) rfl _)) (ints_mp a n c xs W (hx.gr g) (by omega)) ?_
          rintro e W2 ⟨v, rfl, hp, g2⟩
          exact ⟨_, rfl, X.un rfl, hR.new (q := MP.intsG n xs) g2 rfl hp⟩
         ·intro ac done u W Sx hR
          exact X.vl (X.move rfl (Sx.ev 9 (.slice pa21 pn21 pc21))) hR.st0
         ·intro ac done u W Sx hR
          exact X.vl (X.field rfl (Sx.ev 5 (Vp w4.heap.size)) (X.fld Try.underlying71 rfl (Try.siz3 _) rfl rfl)) hR.st0
         ·intro ac done u W Sx hR
          have g : Gr w29 W := hR.1
          exact X.vl (X.load rfl (Sx.ev 214 (Vp w4.heap.size)) (X.ld1 (Try.agg3 _) ((hC.gr g).at 4 rfl))) hR.st0
         ·intro ac done u W Sx hR
          exact X.vl (X.field rfl (Sx.ev 5 (Vp w4.heap.size)) (X.fld Try.underlying71 rfl (Try.siz26 _) rfl rfl)) hR.st0
         ·intro ac done u W Sx hR
          have g : Gr w29 W := hR.1
          exact X.vl (X.load rfl (Sx.ev 216 (.pointer (some ⟨w4.heap.size, 2, none⟩))) (X.ld1 (Try.agg26 _) ((hC.gr g).at 6 rfl))) hR.st0
         ·intro ac done u W Sx hR
          have g : Gr w29 W := hR.1
          refine X.call (X.w0 rfl) (X.enter (F := 47) rfl (X.kc (.func (.func 47) #[] #[]) rfl) (X.a1 (Sx.ev 217 (.slice ma mn mc))) (enters_of Try.func47 (by kernel_rfl) rfl _)) (ints_mp ma mn mc ms W (hm.gr g) (by omega)) ?_
          rintro e W2 ⟨v, rfl, hp, g2⟩
          exact ⟨_, rfl, X.un rfl, hR.new (q := MP.intsG mn ms) g2 rfl hp⟩
         ·intro ac done u W Sx hR
          have g : Gr w29 W := hR.1
          obtain ⟨g30, gc30, e3, hG30, h330⟩ := hR.get (i := 3) (MP.intsG n xs) rfl (Sx.an 3 (by kernel_rfl))
          obtain ⟨g31, gc31, e9, hG31, h331⟩ := hR.get (i := 9) (MP.intsG mn ms) rfl (Sx.an 9 (by kernel_rfl))
          refine X.call (X.w0 rfl) (X.enter (F := 30) rfl (X.kc (.func (.func 30) #[] #[]) rfl) (X.a5 (Sx.ev 209 (.agg #[.slice ra tn rcc, .slice (some ⟨cg, 0, none⟩) cn ccg])) ((Sx.own 3 212 rfl).trans e3) (Sx.ev 213 (.slice pa21 pn21 pc21)) (Sx.ev 215 (Vi bu)) ((Sx.own 9 218 rfl).trans e9)) (enters_of Try.func30 (by kernel_rfl) rfl _)) (int_mp ra (some ⟨cg, 0, none⟩) (some ⟨g30, 0, none⟩) pa21 (some ⟨g31, 0, none⟩) tn rcc cn ccg n gc30 pn21 pc21 mn gc31 f xs ms PL bu W (hf2.gr g) hG30 (hR21.gr g) hcp21 hG31) ?_
          rintro e W2 ⟨v, rfl, hp, g2⟩
          exact ⟨_, rfl, X.un rfl, hR.new (q := MP.plan (intV f xs PL bu ms) (intE f xs PL bu ms)) g2 rfl hp⟩
         ·intro ac done u W Sx hR
          obtain ⟨pa32, pn32, pc32, e10, hR32, hcp32⟩ := hR.get (i := 10) (MP.plan (intV f xs PL bu ms) (intE f xs PL bu ms)) rfl (Sx.an 10 (by kernel_rfl))
          exact X.valN (X.w0 rfl) rfl (X.move rfl (Sx.own 10 219 rfl)) (hR.new (q := MP.plan (intV f xs PL bu ms) (intE f xs PL bu ms)) (Gr.refl _) rfl (hR.get (i := 10) (MP.plan (intV f xs PL bu ms) (intE f xs PL bu ms)) rfl (Sx.an 10 (by kernel_rfl))))
         ·intro ac done u W Sx hR
          obtain ⟨pa33, pn33, pc33, e11, hR33, hcp33⟩ := hR.get (i := 11) (MP.plan (intV f xs PL bu ms) (intE f xs PL bu ms)) rfl (Sx.an 11 (by kernel_rfl))
          exact X.valN (X.w0 rfl) rfl (X.extract rfl ((Sx.own 11 208 rfl).trans e11) rfl) (hR.new (q := MP.rowsC (intV f xs PL bu ms)) (Gr.refl _) rfl ⟨_, _, _, rfl, hR33, hcp33⟩)
         ·intro ac done u W Sx hR
          obtain ⟨pa33, pn33, pc33, e11, hR33, hcp33⟩ := hR.get (i := 11) (MP.plan (intV f xs PL bu ms) (intE f xs PL bu ms)) rfl (Sx.an 11 (by kernel_rfl))
          exact X.vl (X.extract rfl ((Sx.own 11 208 rfl).trans e11) rfl) hR.st0
         ·intro ac done u W Sx hR
          obtain ⟨pa34, pn34, pc34, e12, hR34, hcp34⟩ := hR.get (i := 12) (MP.rowsC (intV f xs PL bu ms)) rfl (Sx.an 12 (by kernel_rfl))
          exact X.valN (X.w0 rfl) rfl (X.assign rfl (Sx.own 12 220 rfl)) (hR.new (q := MP.rowsC (intV f xs PL bu ms)) (Gr.refl _) rfl (hR.get (i := 12) (MP.rowsC (intV f xs PL bu ms)) rfl (Sx.an 12 (by kernel_rfl))))
         ·intro ac done u W Sx hR
          exact X.vl (X.assign rfl (Sx.ev 221 (Vi (intE f xs PL bu ms)))) hR.st0
         intro ac u w36 hs hd hl ho hR
         have g : Gr w29 w36 := hR.1
         obtain ⟨g30, gc30, e3, hG30, h330⟩ := hR.get (i := 3) (MP.intsG n xs) rfl rfl
         obtain ⟨g31, gc31, e9, hG31, h331⟩ := hR.get (i := 9) (MP.intsG mn ms) rfl rfl
         obtain ⟨pa32, pn32, pc32, e10, hR32, hcp32⟩ := hR.get (i := 10) (MP.plan (intV f xs PL bu ms) (intE f xs PL bu ms)) rfl rfl
         obtain ⟨pa33, pn33, pc33, e11, hR33, hcp33⟩ := hR.get (i := 11) (MP.plan (intV f xs PL bu ms) (intE f xs PL bu ms)) rfl rfl
         obtain ⟨pa34, pn34, pc34, e12, hR34, hcp34⟩ := hR.get (i := 12) (MP.rowsC (intV f xs PL bu ms)) rfl rfl
         obtain ⟨pa35, pn35, pc35, e14, hR35, hcp35⟩ := hR.get (i := 14) (MP.rowsC (intV f xs PL bu ms)) rfl rfl
         replace F : Fr ac 316 [(4, Vp w3.heap.size), (5, Vp w4.heap.size), (7, Vp w12.heap.size), (9, .slice pa21 pn21 pc21), (22, Vi (intE f xs PL bu ms))] := X.fr hs hd hl _ (by kernel_rfl)
         replace F := F.add (ho 14 21 rfl) e14
         replace F : Fr ac 316 [(4, Vp w3.heap.size), (5, Vp w4.heap.size), (7, Vp w12.heap.size), (9, .slice pa21 pn21 pc21), (21, .slice pa35 pn35 pc35), (22, Vi (intE f xs PL bu ms))] := F.sub _
         clear e3 e9 e10 e11 e12 e14
         clear hs hd hl ho hR
         replace G := G.trans g
         replace hC := hC.gr g
         replace GB_ := GB_.trans g
         replace hft := hft.gr g
         replace hx := hx.gr g
         replace hy := hy.gr g
         replace hm := hm.gr g
         replace hf2 := hf2.gr g
         replace hR21 := hR21.gr g
         replace hG24 := hG24.gr g
         replace hnow := hnow.gr g
         clear g
         obtain ⟨IS, hIS⟩ : ∃ z, z = intV f xs PL bu ms := ⟨_, rfl⟩
         rw [← hIS] at hR35
         have hisl := hR35.len
         have hislt := hR35.lt
         refine X.thenN ?_
         refine Y.seq ?_
         refine Y.seq ?_
         refine Y.lit (by kernel_rfl) ?_
         refine Y.pv F (X.move rfl (F.ev 22 (Vi (intE f xs PL bu ms)))) ?_;clear F ac;intro ac F
         refine Y.pv F (X.binop rfl (F.ev 222 (Vi (intE f xs PL bu ms))) (X.kc (Vi 0) rfl) (X.neqI Try.underlying31 rfl)) ?_;clear F ac;intro ac F
         refine Y.nil ?_
         replace F : Fr ac 316 [(4, Vp w3.heap.size), (5, Vp w4.heap.size), (7, Vp w12.heap.size), (9, .slice pa21 pn21 pc21), (21, .slice pa35 pn35 pc35), (223, .bool ((intE f xs PL bu ms : Int) != 0))] := F.sub _
         refine X.thenN ?_
         cases h37 : ((intE f xs PL bu ms : Int) != 0) with
         | false =>
          try rw [h37] at F
          have h37p : (intE f xs PL bu ms : Int) = 0 := by simpa using h37
          have hIS2 : IS = intr f.times xs PL ms := by rw [hIS]; unfold intV; rw [if_pos h37p]
          refine Y.condF (F.ev 223 (.bool false)) ?_
          refine Y.skip ?_
          refine X.thenN ?_
          refine Y.seq ?_
          refine Y.seq ?_
          refine Y.lit (by kernel_rfl) ?_
          refine Y.pv F (X.assign rfl (X.kc (Vi 0) rfl)) ?_;clear F ac;intro ac F
          refine Y.nil ?_
          replace F : Fr ac 316 [(4, Vp w3.heap.size), (5, Vp w4.heap.size), (7, Vp w12.heap.size), (9, .slice pa21 pn21 pc21), (21, .slice pa35 pn35 pc35), (23, Vi 0)] := F.sub _
          refine X.thenN ?_
          refine Y.block ?_
          have hftB := hft
          have hxB := hx
          have hyB := hy
          have hmB := hm
          have hf2B := hf2
          have hR21B := hR21
          have hnowB := hnow
          have hR35B := hR35
          have hCB := hC
          have GB := G
          refine Y.loop (fun me_ ac wr => ∃ (k : Nat), me_ = pn35 - k ∧ Gr w36 wr ∧ k ≤ pn35 ∧ Fr ac 316 [(4, Vp w3.heap.size), (5, Vp w4.heap.size), (7, Vp w12.heap.size), (9, .slice pa21 pn21 pc21), (21, .slice pa35 pn35 pc35), (23, Vi k)]) _ ⟨0, rfl, Gr.refl _, Nat.zero_le _, F.sub _⟩ ?_
          clear F
          intro me_ ac w38 hI
          obtain ⟨k, rfl, gr, hk0, F⟩ := hI
          replace G := GB.trans gr
          replace hC := hCB.gr gr
          replace hft := hftB.gr gr
          replace hx := hxB.gr gr
          replace hy := hyB.gr gr
          replace hm := hmB.gr gr
          replace hf2 := hf2B.gr gr
          replace hR21 := hR21B.gr gr
          replace hnow := hnowB.gr gr
          replace hR35 := hR35B.gr gr
          have GB_ := gr
          clear gr
          refine Y.seq ?_
          refine Y.seq ?_
          refine Y.lit (by kernel_rfl) ?_
          refine Y.pv F (X.move rfl (F.ev 23 (Vi k))) ?_;clear F ac;intro ac F
          refine Y.pv F (X.move rfl (F.ev 21 (.slice pa35 pn35 pc35))) ?_;clear F ac;intro ac F
          refine Y.pv F (X.len1 Try.underlying22 rfl (F.ev 226 (.slice pa35 pn35 pc35))) ?_;clear F ac;intro ac F
          refine Y.pv F (X.binop rfl (F.ev 225 (Vi k)) (F.ev 227 (Vi pn35)) (X.lssI Try.underlying3 rfl)) ?_;clear F ac;intro ac F
          refine Y.nil ?_
          replace F : Fr ac 316 [(4, Vp w3.heap.size), (5, Vp w4.heap.size), (7, Vp w12.heap.size), (9, .slice pa21 pn21 pc21), (21, .slice pa35 pn35 pc35), (23, Vi k), (228, .bool (decide ((k : Int) < pn35)))] := F.sub _
          refine X.thenN ?_
          cases h39 : decide ((k : Int) < pn35) with
          | false =>
           try rw [h39] at F
           have h39p : ¬ ((k : Int) < pn35) := of_decide_eq_false h39
           refine Y.condF (F.ev 228 (.bool false)) ?_
           refine Y.exit ?_
           refine X.thenX ?_
           refine X.thenX ?_
           refine X.blockX ?_
           refine X.thenN ?_
           refine Y.seq ?_
           refine Y.seq ?_
           refine Y.lit (by kernel_rfl) ?_
           refine Y.pv F (X.assign rfl (X.kc (Vi 0) rfl)) ?_;clear F ac;intro ac F
           refine Y.nil ?_
           replace F : Fr ac 316 [(4, Vp w3.heap.size), (5, Vp w4.heap.size), (7, Vp w12.heap.size), (9, .slice pa21 pn21 pc21), (29, Vi 0)] := F.sub _
           refine X.thenN ?_
           refine Y.block ?_
           have hftB := hft
           have hxB := hx
           have hyB := hy
           have hmB := hm
           have hf2B := hf2
           have hR21B := hR21
           have hnowB := hnow
           have hR35B := hR35
           have hCB := hC
           have GB := G
           refine Y.loop (fun me_ ac wr => ∃ (k : Nat), me_ = pn21 + 1 - k ∧ Gr w38 wr ∧ k ≤ pn21 + 1 ∧ Fr ac 316 [(4, Vp w3.heap.size), (5, Vp w4.heap.size), (7, Vp w12.heap.size), (9, .slice pa21 pn21 pc21), (29, Vi k)]) _ ⟨0, rfl, Gr.refl _, Nat.zero_le _, F.sub _⟩ ?_
           clear F
           intro me_ ac w40 hI
           obtain ⟨k, rfl, gr, hk0, F⟩ := hI
           replace G := GB.trans gr
           replace hC := hCB.gr gr
           replace hft := hftB.gr gr
           replace hx := hxB.gr gr
           replace hy := hyB.gr gr
           replace hm := hmB.gr gr
           replace hf2 := hf2B.gr gr
           replace hR21 := hR21B.gr gr
           replace hnow := hnowB.gr gr
           replace hR35 := hR35B.gr gr
           have GB_ := gr
           clear gr
           refine Y.seq ?_
           refine Y.seq ?_
           refine Y.lit (by kernel_rfl) ?_
           refine Y.pv F (X.move rfl (F.ev 29 (Vi k))) ?_;clear F ac;intro ac F
           refine Y.pv F (X.move rfl (F.ev 9 (.slice pa21 pn21 pc21))) ?_;clear F ac;intro ac F
           refine Y.pv F (X.len1 Try.underlying22 rfl (F.ev 275 (.slice pa21 pn21 pc21))) ?_;clear F ac;intro ac F
           refine Y.pv F (X.binop rfl (F.ev 274 (Vi k)) (F.ev 276 (Vi pn21)) (X.leqI Try.underlying3 rfl)) ?_;clear F ac;intro ac F
           refine Y.nil ?_
           replace F : Fr ac 316 [(4, Vp w3.heap.size), (5, Vp w4.heap.size), (7, Vp w12.heap.size), (9, .slice pa21 pn21 pc21), (29, Vi k), (277, .bool (decide ((k : Int) ≤ pn21)))] := F.sub _
           refine X.thenN ?_
           cases h41 : decide ((k : Int) ≤ pn21) with
           | false =>
            try rw [h41] at F
            have h41p : ¬ ((k : Int) ≤ pn21) := of_decide_eq_false h41
            refine Y.condF (F.ev 277 (.bool false)) ?_
            refine Y.exit ?_
            refine X.thenX ?_
            refine X.thenX ?_
            refine X.blockX ?_
            refine X.thenN ?_
            refine Y.seq ?_
            refine Y.lit (by kernel_rfl) ?_
            refine Y.pcall F (X.w0 rfl) rfl (X.enter (F := 46) rfl (X.kc (.func (.func 46) #[] #[]) rfl) rfl (enters_of Try.func46 (by kernel_rfl) rfl _)) (counts_any w40) ?_
            clear F ac
            rintro e w43 ⟨rfl, g⟩
            refine ⟨_, rfl, ?_⟩
            intro ac F
            replace G := G.trans g
            replace hC := hC.gr g
            replace GB_ := GB_.trans g
            replace hft := hft.gr g
            replace hx := hx.gr g
            replace hy := hy.gr g
            replace hm := hm.gr g
            replace hf2 := hf2.gr g
            replace hR21 := hR21.gr g
            replace hnow := hnow.gr g
            replace hR35 := hR35.gr g
            clear g
            refine Y.pv F (X.assign rfl (F.ev 315 (.bool true))) ?_;clear F ac;intro ac F
            refine Y.nil ?_
            replace F : Fr ac 316 [(6, .bool true)] := F.sub _
            refine X.thenN ?_
            refine Y.ret ?_
            exact Y.ret0 (v := .bool true) F (Y.rs1 F rfl (by kernel_rfl)) ⟨rfl, G⟩
           | true =>
            try rw [h41] at F
            have h41p : ((k : Int) ≤ pn21) := of_decide_eq_true h41
            obtain ⟨hbe, hbv⟩ := back_ok hcp0 (d := k) (by omega)
            refine Y.condT (F.ev 277 (.bool true)) ?_
            refine Y.skip ?_
            refine X.thenN ?_
            refine Y.seq ?_
            refine Y.block ?_
            refine Y.seq ?_
            refine Y.region F [some (.agg #[.slice ra tn rcc, .slice (some ⟨cg, 0, none⟩) cn ccg]), some (Vp w3.heap.size), some (.slice a n c), none, some (.slice pa21 pn21 pc21), some (Vp w4.heap.size), some (Vi bu), some (Vi k), none, none, none, some (Vi (backE f xs PL bu k)), none, some (Vi (backE f xs PL bu k))] [(3, MP.intsG n xs), (8, MP.plan (backV f xs PL bu k) (backE f xs PL bu k)), (9, MP.plan (backV f xs PL bu k) (backE f xs PL bu k)), (10, MP.rowsC (backV f xs PL bu k)), (12, MP.rowsC (backV f xs PL bu k))] rfl ⟨by kernel_rfl, of_decide_eq_true (by kernel_rfl), by kernel_rfl, by kernel_rfl, by kernel_rfl⟩ ⟨?_, ?_, ?_, ?_, ?_, ?_, ?_, ?_, ?_, ?_, ?_, ?_, ?_, ?_, trivial⟩ ?_
            ·intro ac done u W Sx hR
             have g : Gr w40 W := hR.1
             exact X.vl (X.load rfl (Sx.ev 7 (Vp w12.heap.size)) (X.ldN (Try.agg25 _) (Try.siz25 _) (Y.atz (⟨w12.heap.size, 0, none⟩) (Y.AtFrom.cons ((hC.gr g).at 8 rfl) (Y.AtFrom.cons ((hC.gr g).at 9 rfl) (Y.AtFrom.nil _ _ _)))))) hR.st0
            ·intro ac done u W Sx hR
             exact X.vl (X.index rfl (Sx.ev 4 (Vp w3.heap.size)) (X.kc (Vi 0) rfl) (Y.idxA (k := 0) Try.underlying69 (Try.siz26 _) (by decide) (by omega) (by omega) rfl)) hR.st0
            ·intro ac done u W Sx hR
             have g : Gr w40 W := hR.1
             exact X.vl (X.load rfl (Sx.ev 282 (Vp w3.heap.size)) (X.ld1 (Try.agg26 _) ((hC.gr g).at 2 rfl))) hR.st0
            ·intro ac done u W Sx hR
             have g : Gr w40 W := hR.1
             refine X.call (X.w0 rfl) (X.enter (F := 47) rfl (X.kc (.func (.func 47) #[] #[]) rfl) (X.a1 (Sx.ev 283 (.slice a n c))) (enters_of Try.func47 (by kernel_rfl) rfl _)) (ints_mp a n c xs W (hx.gr g) (by omega)) ?_
             rintro e W2 ⟨v, rfl, hp, g2⟩
             exact ⟨_, rfl, X.un rfl, hR.new (q := MP.intsG n xs) g2 rfl hp⟩
            ·intro ac done u W Sx hR
             exact X.vl (X.move rfl (Sx.ev 9 (.slice pa21 pn21 pc21))) hR.st0
            ·intro ac done u W Sx hR
             exact X.vl (X.field rfl (Sx.ev 5 (Vp w4.heap.size)) (X.fld Try.underlying71 rfl (Try.siz3 _) rfl rfl)) hR.st0
            ·intro ac done u W Sx hR
             have g : Gr w40 W := hR.1
             exact X.vl (X.load rfl (Sx.ev 286 (Vp w4.heap.size)) (X.ld1 (Try.agg3 _) ((hC.gr g).at 4 rfl))) hR.st0
            ·intro ac done u W Sx hR
             exact X.vl (X.move rfl (Sx.ev 29 (Vi k))) hR.st0
            ·intro ac done u W Sx hR
             have g : Gr w40 W := hR.1
             obtain ⟨g44, gc44, e3, hG44, h344⟩ := hR.get (i := 3) (MP.intsG n xs) rfl (Sx.an 3 (by kernel_rfl))
             refine X.call (X.w0 rfl) (X.enter (F := 32) rfl (X.kc (.func (.func 32) #[] #[]) rfl) (X.a5 (Sx.ev 281 (.agg #[.slice ra tn rcc, .slice (some ⟨cg, 0, none⟩) cn ccg])) ((Sx.own 3 284 rfl).trans e3) (Sx.ev 285 (.slice pa21 pn21 pc21)) (Sx.ev 287 (Vi bu)) (Sx.ev 288 (Vi k))) (enters_of Try.func32 (by kernel_rfl) rfl _)) (back_mp ra (some ⟨cg, 0, none⟩) (some ⟨g44, 0, none⟩) pa21 tn rcc cn ccg n gc44 pn21 pc21 f xs PL bu k W (hf2.gr g) hG44 (hR21.gr g) hcp21) ?_
             rintro e W2 ⟨v, rfl, hp, g2⟩
             exact ⟨_, rfl, X.un rfl, hR.new (q := MP.plan (backV f xs PL bu k) (backE f xs PL bu k)) g2 rfl hp⟩
            ·intro ac done u W Sx hR
             obtain ⟨pa45, pn45, pc45, e8, hR45, hcp45⟩ := hR.get (i := 8) (MP.plan (backV f xs PL bu k) (backE f xs PL bu k)) rfl (Sx.an 8 (by kernel_rfl))
             exact X.valN (X.w0 rfl) rfl (X.move rfl (Sx.own 8 289 rfl)) (hR.new (q := MP.plan (backV f xs PL bu k) (backE f xs PL bu k)) (Gr.refl _) rfl (hR.get (i := 8) (MP.plan (backV f xs PL bu k) (backE f xs PL bu k)) rfl (Sx.an 8 (by kernel_rfl))))
            ·intro ac done u W Sx hR
             obtain ⟨pa46, pn46, pc46, e9, hR46, hcp46⟩ := hR.get (i := 9) (MP.plan (backV f xs PL bu k) (backE f xs PL bu k)) rfl (Sx.an 9 (by kernel_rfl))
             exact X.valN (X.w0 rfl) rfl (X.extract rfl ((Sx.own 9 280 rfl).trans e9) rfl) (hR.new (q := MP.rowsC (backV f xs PL bu k)) (Gr.refl _) rfl ⟨_, _, _, rfl, hR46, hcp46⟩)
            ·intro ac done u W Sx hR
             obtain ⟨pa46, pn46, pc46, e9, hR46, hcp46⟩ := hR.get (i := 9) (MP.plan (backV f xs PL bu k) (backE f xs PL bu k)) rfl (Sx.an 9 (by kernel_rfl))
             exact X.vl (X.extract rfl ((Sx.own 9 280 rfl).trans e9) rfl) hR.st0
            ·intro ac done u W Sx hR
             obtain ⟨pa47, pn47, pc47, e10, hR47, hcp47⟩ := hR.get (i := 10) (MP.rowsC (backV f xs PL bu k)) rfl (Sx.an 10 (by kernel_rfl))
             exact X.valN (X.w0 rfl) rfl (X.assign rfl (Sx.own 10 290 rfl)) (hR.new (q := MP.rowsC (backV f xs PL bu k)) (Gr.refl _) rfl (hR.get (i := 10) (MP.rowsC (backV f xs PL bu k)) rfl (Sx.an 10 (by kernel_rfl))))
            ·intro ac done u W Sx hR
             exact X.vl (X.assign rfl (Sx.ev 291 (Vi (backE f xs PL bu k)))) hR.st0
            intro ac u w49 hs hd hl ho hR
            have g : Gr w40 w49 := hR.1
            obtain ⟨g44, gc44, e3, hG44, h344⟩ := hR.get (i := 3) (MP.intsG n xs) rfl rfl
            obtain ⟨pa45, pn45, pc45, e8, hR45, hcp45⟩ := hR.get (i := 8) (MP.plan (backV f xs PL bu k) (backE f xs PL bu k)) rfl rfl
            obtain ⟨pa46, pn46, pc46, e9, hR46, hcp46⟩ := hR.get (i := 9) (MP.plan (backV f xs PL bu k) (backE f xs PL bu k)) rfl rfl
            obtain ⟨pa47, pn47, pc47, e10, hR47, hcp47⟩ := hR.get (i := 10) (MP.rowsC (backV f xs PL bu k)) rfl rfl
            obtain ⟨pa48, pn48, pc48, e12, hR48, hcp48⟩ := hR.get (i := 12) (MP.rowsC (backV f xs PL bu k)) rfl rfl
            replace F : Fr ac 316 [(4, Vp w3.heap.size), (5, Vp w4.heap.size), (7, Vp w12.heap.size), (9, .slice pa21 pn21 pc21), (29, Vi k), (31, Vi (backE f xs PL bu k))] := X.fr hs hd hl _ (by kernel_rfl)
            replace F := F.add (ho 12 30 rfl) e12
            replace F : Fr ac 316 [(4, Vp w3.heap.size), (5, Vp w4.heap.size), (7, Vp w12.heap.size), (9, .slice pa21 pn21 pc21), (29, Vi k), (30, .slice pa48 pn48 pc48), (31, Vi (backE f xs PL bu k))] := F.sub _
            clear e3 e8 e9 e10 e12
            clear hs hd hl ho hR
            replace G := G.trans g
            replace hC := hC.gr g
            replace GB_ := GB_.trans g
            replace hft := hft.gr g
            replace hx := hx.gr g
            replace hy := hy.gr g
            replace hm := hm.gr g
            replace hf2 := hf2.gr g
            replace hR21 := hR21.gr g
            replace hnow := hnow.gr g
            replace hR35 := hR35.gr g
            clear g
            rw [hbv] at hR48
            obtain rfl : k = pn48 := by have h9 := hR48.len; rw [bk_len] at h9; exact h9
            refine X.thenN ?_
            refine Y.seq ?_
            have h51 : ((backE f xs PL bu k : Int) != 0) = false := by rw [hbe]; rfl
            try rw [h51] at F
            cases h52 : decide ((0 : Int) < k) with
            | false =>
             try rw [h52] at F
             have h52p : ¬ ((0 : Int) < k) := of_decide_eq_false h52
             refine Y.region F [some (Vi (backE f xs PL bu k)), some (.bool false), some (.bool false), some (.slice pa48 k pc48), some (Vi k), some (Vi k), some (.bool false), some (.bool false), some (.bool false), some (Vi k), some (.bool false), some (.bool false), none, none, none, none, none, none, none, none, none, some (.bool false), some (.bool false)] [] rfl ⟨by kernel_rfl, of_decide_eq_true (by kernel_rfl), by kernel_rfl, by kernel_rfl, by kernel_rfl⟩ ⟨?_, ?_, ?_, ?_, ?_, ?_, ?_, ?_, ?_, ?_, ?_, ?_, ?_, ?_, ?_, ?_, ?_, ?_, ?_, ?_, ?_, ?_, ?_, trivial⟩ ?_
             ·intro ac done u W Sx hR
              exact X.vl (X.move rfl (Sx.ev 31 (Vi (backE f xs PL bu k)))) hR.st0
             ·intro ac done u W Sx hR
              exact X.vl (X.binop rfl (Sx.ev 292 (Vi (backE f xs PL bu k))) (X.kc (Vi 0) rfl) (X.neqI Try.underlying31 h51)) hR.st0
             ·intro ac done u W Sx hR
              exact X.vl (X.move rfl (Sx.ev 293 (.bool false))) hR.st0
             ·intro ac done u W Sx hR
              exact X.val (X.w1 rfl (Sx.yl 2 294 false (by kernel_rfl) rfl rfl)) rfl (X.move rfl (Sx.ev 30 (.slice pa48 k pc48))) hR.st0
             ·intro ac done u W Sx hR
              exact X.val (X.w1 rfl (Sx.yl 2 294 false (by kernel_rfl) rfl rfl)) rfl (X.len1 Try.underlying22 rfl (Sx.ev 295 (.slice pa48 k pc48))) hR.st0
             ·intro ac done u W Sx hR
              exact X.val (X.w1 rfl (Sx.yl 2 294 false (by kernel_rfl) rfl rfl)) rfl (X.move rfl (Sx.ev 29 (Vi k))) hR.st0
             ·intro ac done u W Sx hR
              exact X.val (X.w1 rfl (Sx.yl 2 294 false (by kernel_rfl) rfl rfl)) rfl (X.binop rfl (Sx.ev 296 (Vi k)) (Sx.ev 297 (Vi k)) (X.neqI Try.underlying3 (show ((k : Int) != k) = false by simp))) hR.st0
             ·intro ac done u W Sx hR
              exact X.vl (X.pickF rfl (Sx.ev 294 (.bool false)) (Sx.ev 298 (.bool false))) hR.st0
             ·intro ac done u W Sx hR
              exact X.vl (X.move rfl (Sx.ev 299 (.bool false))) hR.st0
             ·intro ac done u W Sx hR
              exact X.val (X.w1 rfl (Sx.yl 8 300 false (by kernel_rfl) rfl rfl)) rfl (X.move rfl (Sx.ev 29 (Vi k))) hR.st0
             ·intro ac done u W Sx hR
              exact X.val (X.w1 rfl (Sx.yl 8 300 false (by kernel_rfl) rfl rfl)) rfl (X.binop rfl (Sx.ev 301 (Vi k)) (X.kc (Vi 0) rfl) (X.gtrI Try.underlying3 h52)) hR.st0
             ·intro ac done u W Sx hR
              exact X.val (X.w1 rfl (Sx.yl 8 300 false (by kernel_rfl) rfl rfl)) rfl (X.move rfl (Sx.ev 302 (.bool false))) hR.st0
             ·intro ac done u W Sx hR
              exact X.skip (X.w2 rfl (Sx.yl 11 303 false (by kernel_rfl) rfl rfl) rfl) rfl (hR.skip rfl)
             ·intro ac done u W Sx hR
              exact X.skip (X.w2 rfl (Sx.yl 11 303 false (by kernel_rfl) rfl rfl) rfl) rfl (hR.skip rfl)
             ·intro ac done u W Sx hR
              exact X.skip (X.w2 rfl (Sx.yl 11 303 false (by kernel_rfl) rfl rfl) rfl) rfl (hR.skip rfl)
             ·intro ac done u W Sx hR
              exact X.skip (X.w2 rfl (Sx.yl 11 303 false (by kernel_rfl) rfl rfl) rfl) rfl (hR.skip rfl)
             ·intro ac done u W Sx hR
              exact X.skip (X.w2 rfl (Sx.yl 11 303 false (by kernel_rfl) rfl rfl) rfl) rfl (hR.skip rfl)
             ·intro ac done u W Sx hR
              exact X.skip (X.w2 rfl (Sx.yl 11 303 false (by kernel_rfl) rfl rfl) rfl) rfl (hR.skip rfl)
             ·intro ac done u W Sx hR
              exact X.skip (X.w2 rfl (Sx.yl 11 303 false (by kernel_rfl) rfl rfl) rfl) rfl (hR.skip rfl)
             ·intro ac done u W Sx hR
              exact X.skip (X.w2 rfl (Sx.yl 11 303 false (by kernel_rfl) rfl rfl) rfl) rfl (hR.skip rfl)
             ·intro ac done u W Sx hR
              exact X.skip (X.w2 rfl (Sx.yl 11 303 false (by kernel_rfl) rfl rfl) rfl) rfl (hR.skip rfl)
             ·intro ac done u W Sx hR
              exact X.val (X.w1 rfl (Sx.yl 8 300 false (by kernel_rfl) rfl rfl)) rfl (X.pickF rfl (Sx.ev 303 (.bool false)) (X.kc (.bool false) rfl)) hR.st0
             ·intro ac done u W Sx hR
              exact X.vl (X.pickF rfl (Sx.ev 300 (.bool false)) (Sx.ev 313 (.bool false))) hR.st0
             intro ac u w53 hs hd hl ho hR
             have g : Gr w49 w53 := hR.1
             replace F : Fr ac 316 [(4, Vp w3.heap.size), (5, Vp w4.heap.size), (7, Vp w12.heap.size), (9, .slice pa21 pn21 pc21), (29, Vi k), (314, .bool false)] := X.fr hs hd hl _ (by kernel_rfl)
             clear hs hd hl ho hR
             replace G := G.trans g
             replace hC := hC.gr g
             replace GB_ := GB_.trans g
             replace hft := hft.gr g
             replace hx := hx.gr g
             replace hy := hy.gr g
             replace hm := hm.gr g
             replace hf2 := hf2.gr g
             replace hR21 := hR21.gr g
             replace hnow := hnow.gr g
             replace hR48 := hR48.gr g
             clear g
             refine X.thenN ?_
             refine Y.condF (F.ev 314 (.bool false)) ?_
             refine Y.skip ?_
             refine X.blockN ?_
             refine X.thenN ?_
             refine Y.lit (by kernel_rfl) ?_
             refine Y.pv F (X.move rfl (F.ev 29 (Vi k))) ?_;clear F ac;intro ac F
             refine Y.pv F (X.binop rfl (F.ev 278 (Vi k)) (X.kc (Vi 1) rfl) (X.addI Try.underlying3 rfl (by omega) (by omega))) ?_;clear F ac;intro ac F
             refine Y.pv F (X.assign rfl (F.ev 279 (Vi ((k : Int) + 1)))) ?_;clear F ac;intro ac F
             refine Y.nil ?_
             replace F : Fr ac 316 [(4, Vp w3.heap.size), (5, Vp w4.heap.size), (7, Vp w12.heap.size), (9, .slice pa21 pn21 pc21), (29, Vi ((k : Int) + 1))] := F.sub _
             refine X.thenN ?_
             refine ⟨_, ?_, k + 1, rfl, GB_, by omega, F.sub _⟩
             omega
            | true =>
             try rw [h52] at F
             have h52p : ((0 : Int) < k) := of_decide_eq_true h52
             obtain ⟨pd54, pa54, rn54, pq54, pe54, -, pc54, pi54⟩ := hR48.at (j := (k - 1)) (by omega)
             subst pe54
             replace hC : RCells w49 [(Ad w.heap.size 0, .slice ta tn tc), (Ad w.heap.size 1, .slice ca cn cc), (Ad w3.heap.size 0, .slice a n c), (Ad w3.heap.size 1, .slice b m d), (Ad w4.heap.size 0, Vi bu), (Ad w4.heap.size 1, Vi se), (Ad w4.heap.size 2, .slice ma mn mc), (Ad w4.heap.size 3, .string data), (Ad w12.heap.size 0, .slice ra tn rcc), (Ad w12.heap.size 1, .slice (some ⟨cg, 0, none⟩) cn ccg), (pd54.add (k - 1), .slice pa54 rn54 pq54)] := hC.append ((RCells.cons pc54 (RCells.nil _)))
             clear pc54
             rw [bk_first (k := k) (by omega)] at pi54
             refine Y.region F [some (Vi (backE f xs PL bu k)), some (.bool false), some (.bool false), some (.slice (some pd54) k pc48), some (Vi k), some (Vi k), some (.bool false), some (.bool false), some (.bool false), some (Vi k), some (.bool true), some (.bool true), some (.slice (some pd54) k pc48), some (Vi k), some (Vi ((k : Int) - 1)), some (.pointer (some (pd54.add (k - 1)))), some (.slice pa54 rn54 pq54), some (Vp w3.heap.size), some (.slice a n c), some (.bool true), some (.bool false), some (.bool false), some (.bool false)] [] rfl ⟨by kernel_rfl, of_decide_eq_true (by kernel_rfl), by kernel_rfl, by kernel_rfl, by kernel_rfl⟩ ⟨?_, ?_, ?_, ?_, ?_, ?_, ?_, ?_, ?_, ?_, ?_, ?_, ?_, ?_, ?_, ?_, ?_, ?_, ?_, ?_, ?_, ?_, ?_, trivial⟩ ?_
             ·intro ac done u W Sx hR
              exact X.vl (X.move rfl (Sx.ev 31 (Vi (backE f xs PL bu k)))) hR.st0
             ·intro ac done u W Sx hR
              exact X.vl (X.binop rfl (Sx.ev 292 (Vi (backE f xs PL bu k))) (X.kc (Vi 0) rfl) (X.neqI Try.underlying31 h51)) hR.st0
             ·intro ac done u W Sx hR
              exact X.vl (X.move rfl (Sx.ev 293 (.bool false))) hR.st0
             ·intro ac done u W Sx hR
              exact X.val (X.w1 rfl (Sx.yl 2 294 false (by kernel_rfl) rfl rfl)) rfl (X.move rfl (Sx.ev 30 (.slice (some pd54) k pc48))) hR.st0
             ·intro ac done u W Sx hR
              exact X.val (X.w1 rfl (Sx.yl 2 294 false (by kernel_rfl) rfl rfl)) rfl (X.len1 Try.underlying22 rfl (Sx.ev 295 (.slice (some pd54) k pc48))) hR.st0
             ·intro ac done u W Sx hR
              exact X.val (X.w1 rfl (Sx.yl 2 294 false (by kernel_rfl) rfl rfl)) rfl (X.move rfl (Sx.ev 29 (Vi k))) hR.st0
             ·intro ac done u W Sx hR
              exact X.val (X.w1 rfl (Sx.yl 2 294 false (by kernel_rfl) rfl rfl)) rfl (X.binop rfl (Sx.ev 296 (Vi k)) (Sx.ev 297 (Vi k)) (X.neqI Try.underlying3 (show ((k : Int) != k) = false by simp))) hR.st0
             ·intro ac done u W Sx hR
              exact X.vl (X.pickF rfl (Sx.ev 294 (.bool false)) (Sx.ev 298 (.bool false))) hR.st0
             ·intro ac done u W Sx hR
              exact X.vl (X.move rfl (Sx.ev 299 (.bool false))) hR.st0
             ·intro ac done u W Sx hR
              exact X.val (X.w1 rfl (Sx.yl 8 300 false (by kernel_rfl) rfl rfl)) rfl (X.move rfl (Sx.ev 29 (Vi k))) hR.st0
             ·intro ac done u W Sx hR
              exact X.val (X.w1 rfl (Sx.yl 8 300 false (by kernel_rfl) rfl rfl)) rfl (X.binop rfl (Sx.ev 301 (Vi k)) (X.kc (Vi 0) rfl) (X.gtrI Try.underlying3 h52)) hR.st0
             ·intro ac done u W Sx hR
              exact X.val (X.w1 rfl (Sx.yl 8 300 false (by kernel_rfl) rfl rfl)) rfl (X.move rfl (Sx.ev 302 (.bool true))) hR.st0
             ·intro ac done u W Sx hR
              exact X.val (X.w1 rfl (Sx.yl 11 303 true (by kernel_rfl) rfl rfl)) rfl (X.move rfl (Sx.ev 30 (.slice (some pd54) k pc48))) hR.st0
             ·intro ac done u W Sx hR
              exact X.val (X.w1 rfl (Sx.yl 11 303 true (by kernel_rfl) rfl rfl)) rfl (X.move rfl (Sx.ev 29 (Vi k))) hR.st0
             ·intro ac done u W Sx hR
              exact X.val (X.w1 rfl (Sx.yl 11 303 true (by kernel_rfl) rfl rfl)) rfl (X.binop rfl (Sx.ev 305 (Vi k)) (X.kc (Vi 1) rfl) (X.subI Try.underlying3 rfl (by omega) (by omega))) hR.st0
             ·intro ac done u W Sx hR
              exact X.val (X.w1 rfl (Sx.yl 11 303 true (by kernel_rfl) rfl rfl)) rfl (X.index rfl (Sx.ev 304 (.slice (some pd54) k pc48)) (Sx.ev 306 (Vi ((k : Int) - 1))) (X.idx (k := (k - 1)) Try.underlying22 (Try.siz26 _) (by omega) (by omega) (by rw [Nat.mul_one]))) hR.st0
             ·intro ac done u W Sx hR
              have g : Gr w49 W := hR.1
              exact X.val (X.w1 rfl (Sx.yl 11 303 true (by kernel_rfl) rfl rfl)) rfl (X.load rfl (Sx.ev 307 (.pointer (some (pd54.add (k - 1))))) (X.ld1 (Try.agg26 _) ((hC.gr g).at 10 rfl))) hR.st0
             ·intro ac done u W Sx hR
              exact X.val (X.w1 rfl (Sx.yl 11 303 true (by kernel_rfl) rfl rfl)) rfl (X.index rfl (Sx.ev 4 (Vp w3.heap.size)) (X.kc (Vi 0) rfl) (Y.idxA (k := 0) Try.underlying69 (Try.siz26 _) (by decide) (by omega) (by omega) rfl)) hR.st0
             ·intro ac done u W Sx hR
              have g : Gr w49 W := hR.1
              exact X.val (X.w1 rfl (Sx.yl 11 303 true (by kernel_rfl) rfl rfl)) rfl (X.load rfl (Sx.ev 309 (Vp w3.heap.size)) (X.ld1 (Try.agg26 _) ((hC.gr g).at 2 rfl))) hR.st0
             ·intro ac done u W Sx hR
              have g : Gr w49 W := hR.1
              refine X.call (X.w1 rfl (Sx.yl 11 303 true (by kernel_rfl) rfl rfl)) (X.enter (F := 48) rfl (X.kc (.func (.func 48) #[] #[]) rfl) (X.a2 (Sx.ev 308 (.slice pa54 rn54 pq54)) (Sx.ev 310 (.slice a n c))) (enters_of Try.func48 (by kernel_rfl) rfl _)) (by have hq := same_top pa54 a rn54 pq54 n c xs xs W (pi54.gr g) (hx.gr g); rw [decide_eq_true rfl] at hq; exact hq) ?_
              rintro e W2 ⟨rfl, g2⟩
              exact ⟨_, rfl, X.kn rfl, hR.step g2 rfl⟩
             ·intro ac done u W Sx hR
              exact X.val (X.w1 rfl (Sx.yl 11 303 true (by kernel_rfl) rfl rfl)) rfl (X.notB rfl (Sx.ev 311 (.bool true)) rfl) hR.st0
             ·intro ac done u W Sx hR
              exact X.val (X.w1 rfl (Sx.yl 8 300 false (by kernel_rfl) rfl rfl)) rfl (X.pickT rfl (Sx.ev 303 (.bool true)) (Sx.ev 312 (.bool false))) hR.st0
             ·intro ac done u W Sx hR
              exact X.vl (X.pickF rfl (Sx.ev 300 (.bool false)) (Sx.ev 313 (.bool false))) hR.st0
             intro ac u w56 hs hd hl ho hR
             have g : Gr w49 w56 := hR.1
             replace F : Fr ac 316 [(4, Vp w3.heap.size), (5, Vp w4.heap.size), (7, Vp w12.heap.size), (9, .slice pa21 pn21 pc21), (29, Vi k), (314, .bool false)] := X.fr hs hd hl _ (by kernel_rfl)
             clear hs hd hl ho hR
             replace G := G.trans g
             replace hC := hC.gr g
             replace GB_ := GB_.trans g
             replace hft := hft.gr g
             replace hx := hx.gr g
             replace hy := hy.gr g
             replace hm := hm.gr g
             replace hf2 := hf2.gr g
             replace hR21 := hR21.gr g
             replace hnow := hnow.gr g
             replace hR48 := hR48.gr g
             replace pi54 := pi54.gr g
             clear g
             refine X.thenN ?_
             refine Y.condF (F.ev 314 (.bool false)) ?_
             refine Y.skip ?_
             refine X.blockN ?_
             refine X.thenN ?_
             refine Y.lit (by kernel_rfl) ?_
             refine Y.pv F (X.move rfl (F.ev 29 (Vi k))) ?_;clear F ac;intro ac F
             refine Y.pv F (X.binop rfl (F.ev 278 (Vi k)) (X.kc (Vi 1) rfl) (X.addI Try.underlying3 rfl (by omega) (by omega))) ?_;clear F ac;intro ac F
             refine Y.pv F (X.assign rfl (F.ev 279 (Vi ((k : Int) + 1)))) ?_;clear F ac;intro ac F
             refine Y.nil ?_
             replace F : Fr ac 316 [(4, Vp w3.heap.size), (5, Vp w4.heap.size), (7, Vp w12.heap.size), (9, .slice pa21 pn21 pc21), (29, Vi ((k : Int) + 1))] := F.sub _
             refine X.thenN ?_
             refine ⟨_, ?_, k + 1, rfl, GB_, by omega, F.sub _⟩
             omega
          | true =>
           try rw [h39] at F
           have h39p : ((k : Int) < pn35) := of_decide_eq_true h39
           obtain ⟨B, hB, hBe⟩ := intr_pl (T := f.times) (ms := ms) (L := PL) (xs := xs) (j := k) (by rw [← hIS2]; omega)
           rw [← hIS2] at hBe
           obtain ⟨zv, hZ⟩ : ∃ z, z = IS[k]?.getD [] := ⟨_, rfl⟩
           rw [← hZ] at hBe
           have hsZ : StOk f zv := by rw [hBe]; exact hP.at hB
           have hwZ : worksB f zv = true := by rw [hBe]; exact hP.works hwx hB
           have hrp := rest_plan hE (k := B) (by rw [← hPL]; exact hB)
           rw [← hPL, ← hBe] at hrp
           refine Y.condT (F.ev 228 (.bool true)) ?_
           refine Y.skip ?_
           refine X.thenN ?_
           refine Y.seq ?_
           refine Y.block ?_
           refine Y.seq ?_
           obtain ⟨pd57, pa57, rn57, pq57, pe57, -, pc57, pi57⟩ := hR35.at (j := k) (by omega)
           subst pe57
           replace hC : RCells w38 [(Ad w.heap.size 0, .slice ta tn tc), (Ad w.heap.size 1, .slice ca cn cc), (Ad w3.heap.size 0, .slice a n c), (Ad w3.heap.size 1, .slice b m d), (Ad w4.heap.size 0, Vi bu), (Ad w4.heap.size 1, Vi se), (Ad w4.heap.size 2, .slice ma mn mc), (Ad w4.heap.size 3, .string data), (Ad w12.heap.size 0, .slice ra tn rcc), (Ad w12.heap.size 1, .slice (some ⟨cg, 0, none⟩) cn ccg), (pd57.add k, .slice pa57 rn57 pq57)] := hC.append ((RCells.cons pc57 (RCells.nil _)))
           clear pc57
           rw [← hZ] at pi57
           have hZn : rn57 ≤ 1000 := by have h9 := pi57.len; rw [hsZ.len] at h9; omega
           refine Y.region F [some (.agg #[.slice ra tn rcc, .slice (some ⟨cg, 0, none⟩) cn ccg]), some (.slice (some pd57) pn35 pc35), some (Vi k), some (.pointer (some (pd57.add k))), some (.slice pa57 rn57 pq57), none, some (.tuple #[Vi (wI f zv), .bool (wB f zv), Vi (wE f zv)]), some (.tuple #[Vi (wI f zv), .bool (wB f zv), Vi (wE f zv)]), some (Vi (wI f zv)), some (.bool (wB f zv)), some (Vi (wE f zv)), some (Vi (wI f zv)), some (.bool (wB f zv)), some (Vi (wE f zv))] [(5, MP.intsG rn57 zv)] rfl ⟨by kernel_rfl, of_decide_eq_true (by kernel_rfl), by kernel_rfl, by kernel_rfl, by kernel_rfl⟩ ⟨?_, ?_, ?_, ?_, ?_, ?_, ?_, ?_, ?_, ?_, ?_, ?_, ?_, ?_, trivial⟩ ?_
           ·intro ac done u W Sx hR
            have g : Gr w38 W := hR.1
            exact X.vl (X.load rfl (Sx.ev 7 (Vp w12.heap.size)) (X.ldN (Try.agg25 _) (Try.siz25 _) (Y.atz (⟨w12.heap.size, 0, none⟩) (Y.AtFrom.cons ((hC.gr g).at 8 rfl) (Y.AtFrom.cons ((hC.gr g).at 9 rfl) (Y.AtFrom.nil _ _ _)))))) hR.st0
           ·intro ac done u W Sx hR
            exact X.vl (X.move rfl (Sx.ev 21 (.slice (some pd57) pn35 pc35))) hR.st0
           ·intro ac done u W Sx hR
            exact X.vl (X.move rfl (Sx.ev 23 (Vi k))) hR.st0
           ·intro ac done u W Sx hR
            exact X.val (X.w0 rfl) rfl (X.index rfl (Sx.ev 233 (.slice (some pd57) pn35 pc35)) (Sx.ev 234 (Vi k)) (X.idx (k := k) Try.underlying22 (Try.siz26 _) (by omega) (by omega) (by rw [Nat.mul_one]))) hR.st0
           ·intro ac done u W Sx hR
            have g : Gr w38 W := hR.1
            exact X.vl (X.load rfl (Sx.ev 235 (.pointer (some (pd57.add k)))) (X.ld1 (Try.agg26 _) ((hC.gr g).at 10 rfl))) hR.st0
           ·intro ac done u W Sx hR
            have g : Gr w38 W := hR.1
            refine X.call (X.w0 rfl) (X.enter (F := 47) rfl (X.kc (.func (.func 47) #[] #[]) rfl) (X.a1 (Sx.ev 236 (.slice pa57 rn57 pq57))) (enters_of Try.func47 (by kernel_rfl) rfl _)) (ints_mp pa57 rn57 pq57 zv W (pi57.gr g) (by omega)) ?_
            rintro e W2 ⟨v, rfl, hp, g2⟩
            exact ⟨_, rfl, X.un rfl, hR.new (q := MP.intsG rn57 zv) g2 rfl hp⟩
           ·intro ac done u W Sx hR
            have g : Gr w38 W := hR.1
            obtain ⟨g58, gc58, e5, hG58, h358⟩ := hR.get (i := 5) (MP.intsG rn57 zv) rfl (Sx.an 5 (by kernel_rfl))
            refine X.call (X.w0 rfl) (X.enter (F := 38) rfl (X.kc (.func (.func 38) #[] #[]) rfl) (X.a2 (Sx.ev 232 (.agg #[.slice ra tn rcc, .slice (some ⟨cg, 0, none⟩) cn ccg])) ((Sx.own 5 237 rfl).trans e5)) (enters_of Try.func38 (by kernel_rfl) rfl _)) (Works_any ra (some ⟨cg, 0, none⟩) (some ⟨g58, 0, none⟩) tn rcc cn ccg rn57 gc58 f zv W (hf2.gr g) hG58) ?_
            rintro e W2 ⟨rfl, g2⟩
            exact ⟨_, rfl, X.kn rfl, hR.step g2 rfl⟩
           ·intro ac done u W Sx hR
            exact X.vl (X.move rfl (Sx.ev 238 (.tuple #[Vi (wI f zv), .bool (wB f zv), Vi (wE f zv)]))) hR.st0
           ·intro ac done u W Sx hR
            exact X.vl (X.extract rfl (Sx.ev 231 (.tuple #[Vi (wI f zv), .bool (wB f zv), Vi (wE f zv)])) rfl) hR.st0
           ·intro ac done u W Sx hR
            exact X.vl (X.extract rfl (Sx.ev 231 (.tuple #[Vi (wI f zv), .bool (wB f zv), Vi (wE f zv)])) rfl) hR.st0
           ·intro ac done u W Sx hR
            exact X.vl (X.extract rfl (Sx.ev 231 (.tuple #[Vi (wI f zv), .bool (wB f zv), Vi (wE f zv)])) rfl) hR.st0
           ·intro ac done u W Sx hR
            exact X.vl (X.assign rfl (Sx.ev 239 (Vi (wI f zv)))) hR.st0
           ·intro ac done u W Sx hR
            exact X.vl (X.assign rfl (Sx.ev 240 (.bool (wB f zv)))) hR.st0
           ·intro ac done u W Sx hR
            exact X.vl (X.assign rfl (Sx.ev 241 (Vi (wE f zv)))) hR.st0
           intro ac u w60 hs hd hl ho hR
           have g : Gr w38 w60 := hR.1
           obtain ⟨g58, gc58, e5, hG58, h358⟩ := hR.get (i := 5) (MP.intsG rn57 zv) rfl rfl
           replace F : Fr ac 316 [(4, Vp w3.heap.size), (5, Vp w4.heap.size), (7, Vp w12.heap.size), (9, .slice pa21 pn21 pc21), (21, .slice (some pd57) pn35 pc35), (23, Vi k), (25, .bool (wB f zv)), (26, Vi (wE f zv))] := X.fr hs hd hl _ (by kernel_rfl)
           replace F : Fr ac 316 [(4, Vp w3.heap.size), (5, Vp w4.heap.size), (7, Vp w12.heap.size), (9, .slice pa21 pn21 pc21), (21, .slice (some pd57) pn35 pc35), (23, Vi k), (25, .bool (wB f zv)), (26, Vi (wE f zv))] := F.sub _
           clear e5
           clear hs hd hl ho hR
           replace G := G.trans g
           replace hC := hC.gr g
           replace GB_ := GB_.trans g
           replace hft := hft.gr g
           replace hx := hx.gr g
           replace hy := hy.gr g
           replace hm := hm.gr g
           replace hf2 := hf2.gr g
           replace hR21 := hR21.gr g
           replace hnow := hnow.gr g
           replace hR35 := hR35.gr g
           replace pi57 := pi57.gr g
           clear g
           refine X.thenN ?_
           refine Y.seq ?_
           refine Y.region F [some (.agg #[.slice ra tn rcc, .slice (some ⟨cg, 0, none⟩) cn ccg]), some (.slice (some pd57) pn35 pc35), some (Vi k), some (.pointer (some (pd57.add k))), some (.slice pa57 rn57 pq57), none, some (.pointer (some ⟨w3.heap.size, 1, none⟩)), some (.slice b m d), none, some (Vp w4.heap.size), some (Vi bu), none, none, none, some (Vi (planE f zv ys bu)), none, some (Vi (planE f zv ys bu))] [(5, MP.intsG rn57 zv), (8, MP.intsG m ys), (11, MP.plan (planV f zv ys bu) (planE f zv ys bu)), (12, MP.plan (planV f zv ys bu) (planE f zv ys bu)), (13, MP.rowsC (planV f zv ys bu)), (15, MP.rowsC (planV f zv ys bu))] rfl ⟨by kernel_rfl, of_decide_eq_true (by kernel_rfl), by kernel_rfl, by kernel_rfl, by kernel_rfl⟩ ⟨?_, ?_, ?_, ?_, ?_, ?_, ?_, ?_, ?_, ?_, ?_, ?_, ?_, ?_, ?_, ?_, ?_, trivial⟩ ?_
           ·intro ac done u W Sx hR
            have g : Gr w60 W := hR.1
            exact X.vl (X.load rfl (Sx.ev 7 (Vp w12.heap.size)) (X.ldN (Try.agg25 _) (Try.siz25 _) (Y.atz (⟨w12.heap.size, 0, none⟩) (Y.AtFrom.cons ((hC.gr g).at 8 rfl) (Y.AtFrom.cons ((hC.gr g).at 9 rfl) (Y.AtFrom.nil _ _ _)))))) hR.st0
           ·intro ac done u W Sx hR
            exact X.vl (X.move rfl (Sx.ev 21 (.slice (some pd57) pn35 pc35))) hR.st0
           ·intro ac done u W Sx hR
            exact X.vl (X.move rfl (Sx.ev 23 (Vi k))) hR.st0
           ·intro ac done u W Sx hR
            exact X.val (X.w0 rfl) rfl (X.index rfl (Sx.ev 244 (.slice (some pd57) pn35 pc35)) (Sx.ev 245 (Vi k)) (X.idx (k := k) Try.underlying22 (Try.siz26 _) (by omega) (by omega) (by rw [Nat.mul_one]))) hR.st0
           ·intro ac done u W Sx hR
            have g : Gr w60 W := hR.1
            exact X.vl (X.load rfl (Sx.ev 246 (.pointer (some (pd57.add k)))) (X.ld1 (Try.agg26 _) ((hC.gr g).at 10 rfl))) hR.st0
           ·intro ac done u W Sx hR
            have g : Gr w60 W := hR.1
            refine X.call (X.w0 rfl) (X.enter (F := 47) rfl (X.kc (.func (.func 47) #[] #[]) rfl) (X.a1 (Sx.ev 247 (.slice pa57 rn57 pq57))) (enters_of Try.func47 (by kernel_rfl) rfl _)) (ints_mp pa57 rn57 pq57 zv W (pi57.gr g) (by omega)) ?_
            rintro e W2 ⟨v, rfl, hp, g2⟩
            exact ⟨_, rfl, X.un rfl, hR.new (q := MP.intsG rn57 zv) g2 rfl hp⟩
           ·intro ac done u W Sx hR
            exact X.vl (X.index rfl (Sx.ev 4 (Vp w3.heap.size)) (X.kc (Vi 1) rfl) (Y.idxA (k := 1) Try.underlying69 (Try.siz26 _) (by decide) (by omega) (by omega) rfl)) hR.st0
           ·intro ac done u W Sx hR
            have g : Gr w60 W := hR.1
            exact X.vl (X.load rfl (Sx.ev 249 (.pointer (some ⟨w3.heap.size, 1, none⟩))) (X.ld1 (Try.agg26 _) ((hC.gr g).at 3 rfl))) hR.st0
           ·intro ac done u W Sx hR
            have g : Gr w60 W := hR.1
            refine X.call (X.w0 rfl) (X.enter (F := 47) rfl (X.kc (.func (.func 47) #[] #[]) rfl) (X.a1 (Sx.ev 250 (.slice b m d))) (enters_of Try.func47 (by kernel_rfl) rfl _)) (ints_mp b m d ys W (hy.gr g) (by omega)) ?_
            rintro e W2 ⟨v, rfl, hp, g2⟩
            exact ⟨_, rfl, X.un rfl, hR.new (q := MP.intsG m ys) g2 rfl hp⟩
           ·intro ac done u W Sx hR
            exact X.vl (X.field rfl (Sx.ev 5 (Vp w4.heap.size)) (X.fld Try.underlying71 rfl (Try.siz3 _) rfl rfl)) hR.st0
           ·intro ac done u W Sx hR
            have g : Gr w60 W := hR.1
            exact X.vl (X.load rfl (Sx.ev 252 (Vp w4.heap.size)) (X.ld1 (Try.agg3 _) ((hC.gr g).at 4 rfl))) hR.st0
           ·intro ac done u W Sx hR
            have g : Gr w60 W := hR.1
            obtain ⟨g61, gc61, e5, hG61, h361⟩ := hR.get (i := 5) (MP.intsG rn57 zv) rfl (Sx.an 5 (by kernel_rfl))
            obtain ⟨g62, gc62, e8, hG62, h362⟩ := hR.get (i := 8) (MP.intsG m ys) rfl (Sx.an 8 (by kernel_rfl))
            refine X.call (X.w0 rfl) (X.enter (F := 17) rfl (X.kc (.func (.func 17) #[] #[]) rfl) (X.a4 (Sx.ev 243 (.agg #[.slice ra tn rcc, .slice (some ⟨cg, 0, none⟩) cn ccg])) ((Sx.own 5 248 rfl).trans e5) ((Sx.own 8 251 rfl).trans e8) (Sx.ev 253 (Vi bu))) (enters_of Try.func17 (by kernel_rfl) rfl _)) (plan_mp ra (some ⟨cg, 0, none⟩) (some ⟨g61, 0, none⟩) (some ⟨g62, 0, none⟩) tn rcc cn ccg rn57 gc61 m gc62 f zv ys bu W (hf2.gr g) hG61 hG62) ?_
            rintro e W2 ⟨v, rfl, hp, g2⟩
            exact ⟨_, rfl, X.un rfl, hR.new (q := MP.plan (planV f zv ys bu) (planE f zv ys bu)) g2 rfl hp⟩
           ·intro ac done u W Sx hR
            obtain ⟨pa63, pn63, pc63, e11, hR63, hcp63⟩ := hR.get (i := 11) (MP.plan (planV f zv ys bu) (planE f zv ys bu)) rfl (Sx.an 11 (by kernel_rfl))
            exact X.valN (X.w0 rfl) rfl (X.move rfl (Sx.own 11 254 rfl)) (hR.new (q := MP.plan (planV f zv ys bu) (planE f zv ys bu)) (Gr.refl _) rfl (hR.get (i := 11) (MP.plan (planV f zv ys bu) (planE f zv ys bu)) rfl (Sx.an 11 (by kernel_rfl))))
           ·intro ac done u W Sx hR
            obtain ⟨pa64, pn64, pc64, e12, hR64, hcp64⟩ := hR.get (i := 12) (MP.plan (planV f zv ys bu) (planE f zv ys bu)) rfl (Sx.an 12 (by kernel_rfl))
            exact X.valN (X.w0 rfl) rfl (X.extract rfl ((Sx.own 12 242 rfl).trans e12) rfl) (hR.new (q := MP.rowsC (planV f zv ys bu)) (Gr.refl _) rfl ⟨_, _, _, rfl, hR64, hcp64⟩)
           ·intro ac done u W Sx hR
            obtain ⟨pa64, pn64, pc64, e12, hR64, hcp64⟩ := hR.get (i := 12) (MP.plan (planV f zv ys bu) (planE f zv ys bu)) rfl (Sx.an 12 (by kernel_rfl))
            exact X.vl (X.extract rfl ((Sx.own 12 242 rfl).trans e12) rfl) hR.st0
           ·intro ac done u W Sx hR
            obtain ⟨pa65, pn65, pc65, e13, hR65, hcp65⟩ := hR.get (i := 13) (MP.rowsC (planV f zv ys bu)) rfl (Sx.an 13 (by kernel_rfl))
            exact X.valN (X.w0 rfl) rfl (X.assign rfl (Sx.own 13 255 rfl)) (hR.new (q := MP.rowsC (planV f zv ys bu)) (Gr.refl _) rfl (hR.get (i := 13) (MP.rowsC (planV f zv ys bu)) rfl (Sx.an 13 (by kernel_rfl))))
           ·intro ac done u W Sx hR
            exact X.vl (X.assign rfl (Sx.ev 256 (Vi (planE f zv ys bu)))) hR.st0
           intro ac u w67 hs hd hl ho hR
           have g : Gr w60 w67 := hR.1
           obtain ⟨g61, gc61, e5, hG61, h361⟩ := hR.get (i := 5) (MP.intsG rn57 zv) rfl rfl
           obtain ⟨g62, gc62, e8, hG62, h362⟩ := hR.get (i := 8) (MP.intsG m ys) rfl rfl
           obtain ⟨pa63, pn63, pc63, e11, hR63, hcp63⟩ := hR.get (i := 11) (MP.plan (planV f zv ys bu) (planE f zv ys bu)) rfl rfl
           obtain ⟨pa64, pn64, pc64, e12, hR64, hcp64⟩ := hR.get (i := 12) (MP.plan (planV f zv ys bu) (planE f zv ys bu)) rfl rfl
           obtain ⟨pa65, pn65, pc65, e13, hR65, hcp65⟩ := hR.get (i := 13) (MP.rowsC (planV f zv ys bu)) rfl rfl
           obtain ⟨pa66, pn66, pc66, e15, hR66, hcp66⟩ := hR.get (i := 15) (MP.rowsC (planV f zv ys bu)) rfl rfl
           replace F : Fr ac 316 [(4, Vp w3.heap.size), (5, Vp w4.heap.size), (7, Vp w12.heap.size), (9, .slice pa21 pn21 pc21), (21, .slice (some pd57) pn35 pc35), (23, Vi k), (25, .bool (wB f zv)), (26, Vi (wE f zv)), (28, Vi (planE f zv ys bu))] := X.fr hs hd hl _ (by kernel_rfl)
           replace F := F.add (ho 15 27 rfl) e15
           replace F : Fr ac 316 [(4, Vp w3.heap.size), (5, Vp w4.heap.size), (7, Vp w12.heap.size), (9, .slice pa21 pn21 pc21), (21, .slice (some pd57) pn35 pc35), (23, Vi k), (25, .bool (wB f zv)), (26, Vi (wE f zv)), (27, .slice pa66 pn66 pc66), (28, Vi (planE f zv ys bu))] := F.sub _
           clear e5 e8 e11 e12 e13 e15
           clear hs hd hl ho hR
           replace G := G.trans g
           replace hC := hC.gr g
           replace GB_ := GB_.trans g
           replace hft := hft.gr g
           replace hx := hx.gr g
           replace hy := hy.gr g
           replace hm := hm.gr g
           replace hf2 := hf2.gr g
           replace hR21 := hR21.gr g
           replace hnow := hnow.gr g
           replace hR35 := hR35.gr g
           replace pi57 := pi57.gr g
           clear g
           have h9r := hR66.len
           refine X.thenN ?_
           refine Y.seq ?_
           refine Y.lit (by kernel_rfl) ?_
           refine Y.pv F (X.move rfl (F.ev 26 (Vi (wE f zv)))) ?_;clear F ac;intro ac F
           refine Y.pv F (X.binop rfl (F.ev 257 (Vi (wE f zv))) (X.kc (Vi 0) rfl) (X.neqI Try.underlying31 rfl)) ?_;clear F ac;intro ac F
           refine Y.pv F (X.move rfl (F.ev 258 (.bool ((wE f zv : Int) != 0)))) ?_;clear F ac;intro ac F
           have h69 : ((wE f zv : Int) != 0) = false := by rw [wE_zero hchk hsZ]; rfl
           try rw [h69] at F
           refine Y.pval F (X.w1 rfl (F.yl (j := 2) (d := 259) (b := false) rfl (by kernel_rfl))) rfl (X.move rfl (F.ev 25 (.bool (wB f zv)))) ?_;clear F ac;intro ac F
           refine Y.pval F (X.w1 rfl (F.yl (j := 2) (d := 259) (b := false) rfl (by kernel_rfl))) rfl (X.notB rfl (F.ev 260 (.bool (wB f zv))) rfl) ?_;clear F ac;intro ac F
           refine Y.pv F (X.pickF rfl (F.ev 259 (.bool false)) (F.ev 261 (.bool (!(wB f zv))))) ?_;clear F ac;intro ac F
           refine Y.pv F (X.move rfl (F.ev 262 (.bool (!(wB f zv))))) ?_;clear F ac;intro ac F
           have h71 : wB f zv = true := wB_true hchk hsZ hwZ
           try rw [h71] at F
           refine Y.pval F (X.w1 rfl (F.yl (j := 6) (d := 263) (b := false) rfl (by kernel_rfl))) rfl (X.move rfl (F.ev 28 (Vi (planE f zv ys bu)))) ?_;clear F ac;intro ac F
           refine Y.pval F (X.w1 rfl (F.yl (j := 6) (d := 263) (b := false) rfl (by kernel_rfl))) rfl (X.binop rfl (F.ev 264 (Vi (planE f zv ys bu))) (X.kc (Vi 0) rfl) (X.neqI Try.underlying31 rfl)) ?_;clear F ac;intro ac F
           refine Y.pv F (X.pickF rfl (F.ev 263 (.bool false)) (F.ev 265 (.bool ((planE f zv ys bu : Int) != 0)))) ?_;clear F ac;intro ac F
           refine Y.pv F (X.move rfl (F.ev 266 (.bool ((planE f zv ys bu : Int) != 0)))) ?_;clear F ac;intro ac F
           have h73 : ((planE f zv ys bu : Int) != 0) = false := by rw [hrp.1]; rfl
           try rw [h73] at F
           refine Y.pval F (X.w1 rfl (F.yl (j := 10) (d := 267) (b := false) rfl (by kernel_rfl))) rfl (X.move rfl (F.ev 27 (.slice pa66 pn66 pc66))) ?_;clear F ac;intro ac F
           refine Y.pval F (X.w1 rfl (F.yl (j := 10) (d := 267) (b := false) rfl (by kernel_rfl))) rfl (X.len1 Try.underlying22 rfl (F.ev 268 (.slice pa66 pn66 pc66))) ?_;clear F ac;intro ac F
           refine Y.pval F (X.w1 rfl (F.yl (j := 10) (d := 267) (b := false) rfl (by kernel_rfl))) rfl (X.move rfl (F.ev 9 (.slice pa21 pn21 pc21))) ?_;clear F ac;intro ac F
           refine Y.pval F (X.w1 rfl (F.yl (j := 10) (d := 267) (b := false) rfl (by kernel_rfl))) rfl (X.len1 Try.underlying22 rfl (F.ev 270 (.slice pa21 pn21 pc21))) ?_;clear F ac;intro ac F
           refine Y.pval F (X.w1 rfl (F.yl (j := 10) (d := 267) (b := false) rfl (by kernel_rfl))) rfl (X.binop rfl (F.ev 269 (Vi pn66)) (F.ev 271 (Vi pn21)) (X.gtrI Try.underlying3 rfl)) ?_;clear F ac;intro ac F
           refine Y.pv F (X.pickF rfl (F.ev 267 (.bool false)) (F.ev 272 (.bool (decide ((pn21 : Int) < pn66))))) ?_;clear F ac;intro ac F
           refine Y.nil ?_
           replace F : Fr ac 316 [(4, Vp w3.heap.size), (5, Vp w4.heap.size), (7, Vp w12.heap.size), (9, .slice pa21 pn21 pc21), (21, .slice (some pd57) pn35 pc35), (23, Vi k), (273, .bool (decide ((pn21 : Int) < pn66)))] := F.sub _
           refine X.thenN ?_
           have h75 : decide ((pn21 : Int) < pn66) = false := decide_eq_false (by omega)
           have h75p : ¬ ((pn21 : Int) < pn66) := of_decide_eq_false h75
           try rw [h75] at F
           refine Y.condF (F.ev 273 (.bool false)) ?_
           refine Y.skip ?_
           refine X.blockN ?_
           refine X.thenN ?_
           refine Y.lit (by kernel_rfl) ?_
           refine Y.pv F (X.move rfl (F.ev 23 (Vi k))) ?_;clear F ac;intro ac F
           refine Y.pv F (X.binop rfl (F.ev 229 (Vi k)) (X.kc (Vi 1) rfl) (X.addI Try.underlying3 rfl (by omega) (by omega))) ?_;clear F ac;intro ac F
           refine Y.pv F (X.assign rfl (F.ev 230 (Vi ((k : Int) + 1)))) ?_;clear F ac;intro ac F
           refine Y.nil ?_
           replace F : Fr ac 316 [(4, Vp w3.heap.size), (5, Vp w4.heap.size), (7, Vp w12.heap.size), (9, .slice pa21 pn21 pc21), (21, .slice (some pd57) pn35 pc35), (23, Vi ((k : Int) + 1))] := F.sub _
           refine X.thenN ?_
           refine ⟨_, ?_, k + 1, rfl, GB_, by omega, F.sub _⟩
           omega
         | true =>
          try rw [h37] at F
          have h37p : ¬ (intE f xs PL bu ms : Int) = 0 := by simpa using h37
          refine Y.condT (F.ev 223 (.bool true)) ?_
          refine Y.seq ?_
          refine Y.lit (by kernel_rfl) ?_
          refine Y.pcall F (X.w0 rfl) rfl (X.enter (F := 46) rfl (X.kc (.func (.func 46) #[] #[]) rfl) rfl (enters_of Try.func46 (by kernel_rfl) rfl _)) (counts_any w36) ?_
          clear F ac
          rintro e w77 ⟨rfl, g⟩
          refine ⟨_, rfl, ?_⟩
          intro ac F
          replace G := G.trans g
          replace hC := hC.gr g
          replace GB_ := GB_.trans g
          replace hft := hft.gr g
          replace hx := hx.gr g
          replace hy := hy.gr g
          replace hm := hm.gr g
          replace hf2 := hf2.gr g
          replace hR21 := hR21.gr g
          replace hnow := hnow.gr g
          replace hR35 := hR35.gr g
          clear g
          refine Y.pv F (X.assign rfl (F.ev 224 (.bool true))) ?_;clear F ac;intro ac F
          refine Y.nil ?_
          replace F : Fr ac 316 [(6, .bool true)] := F.sub _
          refine X.thenN ?_
          refine Y.ret ?_
          refine X.thenR ?_
          exact Y.ret0 (v := .bool true) F (Y.rs1 F rfl (by kernel_rfl)) ⟨rfl, G⟩
        | true =>
         try rw [h27] at F
         have h27p : ((i : Int) < pn21) := of_decide_eq_true h27
         have hip : i < PL.length := by omega
         obtain ⟨xv, hX⟩ : ∃ z, z = pAt xs PL i := ⟨_, rfl⟩
         rw [← hX] at hnow
         obtain ⟨yv, hY⟩ : ∃ z, z = PL[i]?.getD [] := ⟨_, rfl⟩
         have hYl : yv.length = n := by rw [hY, (hP.l i hip).len, hnt]
         refine Y.condT (F.ev 119 (.bool true)) ?_
         refine Y.skip ?_
         refine X.thenN ?_
         refine Y.seq ?_
         refine Y.block ?_
         refine Y.seq ?_
         refine Y.seq ?_
         refine Y.lit (by kernel_rfl) ?_
         refine Y.pv F (X.move rfl (F.ev 9 (.slice pa21 pn21 pc21))) ?_;clear F ac;intro ac F
         refine Y.pv F (X.move rfl (F.ev 12 (Vi i))) ?_;clear F ac;intro ac F
         obtain ⟨pd78, pa78, rn78, pq78, pe78, -, pc78, pi78⟩ := hR21.at (j := i) (by omega)
         subst pe78
         replace hC : RCells w26 [(Ad w.heap.size 0, .slice ta tn tc), (Ad w.heap.size 1, .slice ca cn cc), (Ad w3.heap.size 0, .slice a n c), (Ad w3.heap.size 1, .slice b m d), (Ad w4.heap.size 0, Vi bu), (Ad w4.heap.size 1, Vi se), (Ad w4.heap.size 2, .slice ma mn mc), (Ad w4.heap.size 3, .string data), (Ad w12.heap.size 0, .slice ra tn rcc), (Ad w12.heap.size 1, .slice (some ⟨cg, 0, none⟩) cn ccg), (pd78.add i, .slice pa78 rn78 pq78)] := hC.append ((RCells.cons pc78 (RCells.nil _)))
         clear pc78
         rw [← hY] at pi78
         obtain rfl : n = rn78 := by have h9 := pi78.len; rw [hYl] at h9; exact h9
         refine Y.pval F (X.w0 rfl) rfl (X.index rfl (F.ev 122 (.slice (some pd78) pn21 pc21)) (F.ev 123 (Vi i)) (X.idx (k := i) Try.underlying22 (Try.siz26 _) (by omega) (by omega) (by rw [Nat.mul_one]))) ?_;clear F ac;intro ac F
         refine Y.pv F (X.load rfl (F.ev 124 (.pointer (some (pd78.add i)))) (X.ld1 (Try.agg26 _) (hC.at 10 rfl))) ?_;clear F ac;intro ac F
         refine Y.pv F (X.len1 Try.underlying26 rfl (F.ev 125 (.slice pa78 n pq78))) ?_;clear F ac;intro ac F
         refine Y.pv F (X.move rfl (F.ev 11 (.slice na2 n nc2))) ?_;clear F ac;intro ac F
         refine Y.pv F (X.len1 Try.underlying26 rfl (F.ev 127 (.slice na2 n nc2))) ?_;clear F ac;intro ac F
         refine Y.pval F (X.w0 rfl) rfl (X.binop rfl (F.ev 126 (Vi n)) (F.ev 128 (Vi n)) (X.neqI Try.underlying3 (show ((n : Int) != n) = false by simp))) ?_;clear F ac;intro ac F
         refine Y.nil ?_
         replace F : Fr ac 316 [(4, Vp w3.heap.size), (5, Vp w4.heap.size), (7, Vp w12.heap.size), (9, .slice (some pd78) pn21 pc21), (11, .slice na2 n nc2), (12, Vi i), (129, .bool false)] := F.sub _
         refine X.thenN ?_
         refine Y.condF (F.ev 129 (.bool false)) ?_
         refine Y.skip ?_
         refine X.thenN ?_
         refine Y.seq ?_
         refine Y.lit (by kernel_rfl) ?_
         refine Y.pv F (X.assign rfl (X.kc (.slice none 0 0) rfl)) ?_;clear F ac;intro ac F
         refine Y.nil ?_
         replace F : Fr ac 316 [(4, Vp w3.heap.size), (5, Vp w4.heap.size), (7, Vp w12.heap.size), (9, .slice (some pd78) pn21 pc21), (11, .slice na2 n nc2), (12, Vi i), (13, .slice none 0 0)] := F.sub _
         refine X.thenN ?_
         refine Y.seq ?_
         refine Y.seq ?_
         have hft0 := hft
         have hx0 := hx
         have hy0 := hy
         have hm0 := hm
         have hf20 := hf2
         have hR210 := hR21
         have hG240 := hG24
         have hnow0 := hnow
         have pi780 := pi78
         have hC0 := hC
         have G0_ := G
         have GW := Gr.refl w26
         have hO := OwnR.nil w26 w26.heap.size 46 4
         refine Y.lit (by kernel_rfl) ?_
         refine Y.pv F (X.assign rfl (X.kc (Vi 0) rfl)) ?_;clear F ac;intro ac F
         refine Y.nil ?_
         replace F : Fr ac 316 [(4, Vp w3.heap.size), (5, Vp w4.heap.size), (7, Vp w12.heap.size), (9, .slice (some pd78) pn21 pc21), (11, .slice na2 n nc2), (12, Vi i), (13, (.slice none 0 0)), (14, Vi 0)] := F.sub _
         refine X.thenN ?_
         refine Y.block ?_
         refine Y.loop (fun me_ ac wr => ∃ (j : Nat) (v : Value), me_ = n - j ∧ j ≤ n ∧ Gr w26 wr ∧ ((pkS xv yv se dt j).length = 0 ∨ tagE se 0 0 dt = 0) ∧ OwnR wr w26.heap.size 46 4 v (pkS xv yv se dt j).length (flatP (pkS xv yv se dt j)) ∧ Fr ac 316 [(4, Vp w3.heap.size), (5, Vp w4.heap.size), (7, Vp w12.heap.size), (9, .slice (some pd78) pn21 pc21), (11, .slice na2 n nc2), (12, Vi i), (13, v), (14, Vi j)]) _ ⟨0, .slice none 0 0, rfl, Nat.zero_le _, GW, .inl rfl, hO, F.sub _⟩ ?_
         clear F ac G GW hC hft hx hy hm hf2 hR21 hG24 hnow pi78 hO
         intro me_ ac w79 hI
         obtain ⟨j, v, rfl, hj0, GW, htg, hO, F⟩ := hI
         have G := G0_
         have hC := hC0
         replace G := G0_.trans GW
         have hft := hft0.gr GW
         have hx := hx0.gr GW
         have hy := hy0.gr GW
         have hm := hm0.gr GW
         have hf2 := hf20.gr GW
         have hR21 := hR210.gr GW
         have hG24 := hG240.gr GW
         have hnow := hnow0.gr GW
         have pi78 := pi780.gr GW
         replace hC := hC0.gr GW
         refine Y.seq ?_
         refine Y.seq ?_
         refine Y.lit (by kernel_rfl) ?_
         refine Y.pv F (X.move rfl (F.ev 14 (Vi j))) ?_;clear F ac;intro ac F
         refine Y.pv F (X.move rfl (F.ev 11 (.slice na2 n nc2))) ?_;clear F ac;intro ac F
         refine Y.pv F (X.len1 Try.underlying26 rfl (F.ev 131 (.slice na2 n nc2))) ?_;clear F ac;intro ac F
         refine Y.pv F (X.binop rfl (F.ev 130 (Vi j)) (F.ev 132 (Vi n)) (X.lssI Try.underlying3 rfl)) ?_;clear F ac;intro ac F
         refine Y.nil ?_
         replace F : Fr ac 316 [(4, Vp w3.heap.size), (5, Vp w4.heap.size), (7, Vp w12.heap.size), (9, .slice (some pd78) pn21 pc21), (11, .slice na2 n nc2), (12, Vi i), (13, v), (14, Vi j), (133, .bool (decide ((j : Int) < n)))] := F.sub _
         refine X.thenN ?_
         cases h80 : decide ((j : Int) < n) with
         | false =>
          try rw [h80] at F
          have h80p : ¬ ((j : Int) < n) := of_decide_eq_false h80
          obtain rfl : n = j := by omega
          have hpkl := pkS_len (xs := xv) (ys := yv) (se := se) (data := dt) n
          obtain ⟨la, lc, rfl, hPk, hlc⟩ := hO.pks (by omega) (pkS_data hdz n)
          obtain ⟨ln, hln⟩ : ∃ z, z = (pkS xv yv se dt n).length := ⟨_, rfl⟩
          rw [← hln] at hPk hlc F
          clear hO
          have hins : instR f se xv (pkS xv yv se dt n) = (yv, 0, 0) := by
           have h9 := inst_step (se := se) (data := dt) hP hchk hwx (i := i) hip (by rw [← hX, ← hY, ← hnt]; exact htg)
           rw [← hX, ← hY, ← hnt] at h9
           exact h9
          replace GB_ := GB_.trans GW
          clear GW
          refine Y.condF (F.ev 133 (.bool false)) ?_
          refine Y.exit ?_
          refine X.thenX ?_
          refine X.thenX ?_
          refine X.blockX ?_
          refine X.thenN ?_
          refine Y.seq ?_
          refine Y.region F [some (.agg #[.slice ra tn rcc, .slice (some ⟨cg, 0, none⟩) cn ccg]), some (.pointer (some ⟨w4.heap.size, 1, none⟩)), some (Vi se), some (.slice na2 n nc2), none, some (.slice la ln lc), none, none, none, some (Vi 0), some (Vi 0), none, some (Vi 0), some (Vi 0)] [(4, MP.intsG n xv), (6, MP.inst yv), (7, MP.inst yv), (8, MP.intsA yv), (11, MP.intsA yv)] rfl ⟨by kernel_rfl, of_decide_eq_true (by kernel_rfl), by kernel_rfl, by kernel_rfl, by kernel_rfl⟩ ⟨?_, ?_, ?_, ?_, ?_, ?_, ?_, ?_, ?_, ?_, ?_, ?_, ?_, ?_, trivial⟩ ?_
          ·intro ac done u W Sx hR
           have g : Gr w79 W := hR.1
           exact X.vl (X.load rfl (Sx.ev 7 (Vp w12.heap.size)) (X.ldN (Try.agg25 _) (Try.siz25 _) (Y.atz (⟨w12.heap.size, 0, none⟩) (Y.AtFrom.cons ((hC.gr g).at 8 rfl) (Y.AtFrom.cons ((hC.gr g).at 9 rfl) (Y.AtFrom.nil _ _ _)))))) hR.st0
          ·intro ac done u W Sx hR
           exact X.vl (X.field rfl (Sx.ev 5 (Vp w4.heap.size)) (X.fld Try.underlying71 rfl (Try.siz3 _) rfl rfl)) hR.st0
          ·intro ac done u W Sx hR
           have g : Gr w79 W := hR.1
           exact X.vl (X.load rfl (Sx.ev 182 (.pointer (some ⟨w4.heap.size, 1, none⟩))) (X.ld1 (Try.agg3 _) ((hC.gr g).at 5 rfl))) hR.st0
          ·intro ac done u W Sx hR
           exact X.vl (X.move rfl (Sx.ev 11 (.slice na2 n nc2))) hR.st0
          ·intro ac done u W Sx hR
           have g : Gr w79 W := hR.1
           refine X.call (X.w0 rfl) (X.enter (F := 47) rfl (X.kc (.func (.func 47) #[] #[]) rfl) (X.a1 (Sx.ev 184 (.slice na2 n nc2))) (enters_of Try.func47 (by kernel_rfl) rfl _)) (ints_mp na2 n nc2 xv W (hnow.gr g) (by omega)) ?_
           rintro e W2 ⟨v, rfl, hp, g2⟩
           exact ⟨_, rfl, X.un rfl, hR.new (q := MP.intsG n xv) g2 rfl hp⟩
          ·intro ac done u W Sx hR
           exact X.vl (X.move rfl (Sx.ev 13 (.slice la ln lc))) hR.st0
          ·intro ac done u W Sx hR
           have g : Gr w79 W := hR.1
           obtain ⟨g81, gc81, e4, hG81, h381⟩ := hR.get (i := 4) (MP.intsG n xv) rfl (Sx.an 4 (by kernel_rfl))
           refine X.call (X.w0 rfl) (X.enter (F := 34) rfl (X.kc (.func (.func 34) #[] #[]) rfl) (X.a4 (Sx.ev 181 (.agg #[.slice ra tn rcc, .slice (some ⟨cg, 0, none⟩) cn ccg])) (Sx.ev 183 (Vi se)) ((Sx.own 4 185 rfl).trans e4) (Sx.ev 186 (.slice la ln lc))) (enters_of Try.func34 (by kernel_rfl) rfl _)) (inst_mp ra (some ⟨cg, 0, none⟩) (some ⟨g81, 0, none⟩) la tn rcc cn ccg n gc81 ln lc f se xv (pkS xv yv se dt n) W (hf2.gr g) hG81 (hPk.gr g) hlc hins) ?_
           rintro e W2 ⟨v, rfl, hp, g2⟩
           exact ⟨_, rfl, X.un rfl, hR.new (q := MP.inst yv) g2 rfl hp⟩
          ·intro ac done u W Sx hR
           obtain ⟨ia82, in82, ic82, e6, hI82⟩ := hR.get (i := 6) (MP.inst yv) rfl (Sx.an 6 (by kernel_rfl))
           exact X.valN (X.w0 rfl) rfl (X.move rfl (Sx.own 6 187 rfl)) (hR.new (q := MP.inst yv) (Gr.refl _) rfl (hR.get (i := 6) (MP.inst yv) rfl (Sx.an 6 (by kernel_rfl))))
          ·intro ac done u W Sx hR
           obtain ⟨ia83, in83, ic83, e7, hI83⟩ := hR.get (i := 7) (MP.inst yv) rfl (Sx.an 7 (by kernel_rfl))
           exact X.valN (X.w0 rfl) rfl (X.extract rfl ((Sx.own 7 180 rfl).trans e7) rfl) (hR.new (q := MP.intsA yv) (Gr.refl _) rfl ⟨_, _, _, rfl, hI83⟩)
          ·intro ac done u W Sx hR
           obtain ⟨ia83, in83, ic83, e7, hI83⟩ := hR.get (i := 7) (MP.inst yv) rfl (Sx.an 7 (by kernel_rfl))
           exact X.vl (X.extract rfl ((Sx.own 7 180 rfl).trans e7) rfl) hR.st0
          ·intro ac done u W Sx hR
           obtain ⟨ia83, in83, ic83, e7, hI83⟩ := hR.get (i := 7) (MP.inst yv) rfl (Sx.an 7 (by kernel_rfl))
           exact X.vl (X.extract rfl ((Sx.own 7 180 rfl).trans e7) rfl) hR.st0
          ·intro ac done u W Sx hR
           obtain ⟨ia84, in84, ic84, e8, hI84⟩ := hR.get (i := 8) (MP.intsA yv) rfl (Sx.an 8 (by kernel_rfl))
           exact X.valN (X.w0 rfl) rfl (X.assign rfl (Sx.own 8 188 rfl)) (hR.new (q := MP.intsA yv) (Gr.refl _) rfl (hR.get (i := 8) (MP.intsA yv) rfl (Sx.an 8 (by kernel_rfl))))
          ·intro ac done u W Sx hR
           exact X.vl (X.assign rfl (Sx.ev 189 (Vi 0))) hR.st0
          ·intro ac done u W Sx hR
           exact X.vl (X.assign rfl (Sx.ev 190 (Vi 0))) hR.st0
          intro ac u w86 hs hd hl ho hR
          have g : Gr w79 w86 := hR.1
          obtain ⟨g81, gc81, e4, hG81, h381⟩ := hR.get (i := 4) (MP.intsG n xv) rfl rfl
          obtain ⟨ia82, in82, ic82, e6, hI82⟩ := hR.get (i := 6) (MP.inst yv) rfl rfl
          obtain ⟨ia83, in83, ic83, e7, hI83⟩ := hR.get (i := 7) (MP.inst yv) rfl rfl
          obtain ⟨ia84, in84, ic84, e8, hI84⟩ := hR.get (i := 8) (MP.intsA yv) rfl rfl
          obtain ⟨ia85, in85, ic85, e11, hI85⟩ := hR.get (i := 11) (MP.intsA yv) rfl rfl
          replace F : Fr ac 316 [(4, Vp w3.heap.size), (5, Vp w4.heap.size), (7, Vp w12.heap.size), (9, .slice (some pd78) pn21 pc21), (12, Vi i), (20, Vi 0)] := X.fr hs hd hl _ (by kernel_rfl)
          replace F := F.add (ho 11 18 rfl) e11
          replace F : Fr ac 316 [(4, Vp w3.heap.size), (5, Vp w4.heap.size), (7, Vp w12.heap.size), (9, .slice (some pd78) pn21 pc21), (12, Vi i), (18, .slice ia85 in85 ic85), (20, Vi 0)] := F.sub _
          clear e4 e6 e7 e8 e11
          clear hs hd hl ho hR
          replace G := G.trans g
          replace hC := hC.gr g
          replace GB_ := GB_.trans g
          replace hft := hft.gr g
          replace hx := hx.gr g
          replace hy := hy.gr g
          replace hm := hm.gr g
          replace hf2 := hf2.gr g
          replace hR21 := hR21.gr g
          replace hG24 := hG24.gr g
          replace hnow := hnow.gr g
          replace pi78 := pi78.gr g
          replace hPk := hPk.gr g
          clear g
          obtain rfl : n = in85 := by have h9 := hI85.len; rw [hYl] at h9; exact h9
          refine X.thenN ?_
          refine Y.seq ?_
          refine Y.seq ?_
          refine Y.lit (by kernel_rfl) ?_
          refine Y.pv F (X.move rfl (F.ev 20 (Vi 0))) ?_;clear F ac;intro ac F
          refine Y.pval F (X.w0 rfl) rfl (X.binop rfl (F.ev 191 (Vi 0)) (X.kc (Vi 0) rfl) (X.neqI Try.underlying31 (show ((0 : Int) != 0) = false by simp))) ?_;clear F ac;intro ac F
          refine Y.pv F (X.move rfl (F.ev 192 (.bool false))) ?_;clear F ac;intro ac F
          refine Y.pval F (X.w1 rfl (F.yl (j := 2) (d := 193) (b := false) rfl (by kernel_rfl))) rfl (X.move rfl (F.ev 18 (.slice ia85 n ic85))) ?_;clear F ac;intro ac F
          refine Y.pval F (X.w1 rfl (F.yl (j := 2) (d := 193) (b := false) rfl (by kernel_rfl))) rfl (X.move rfl (F.ev 9 (.slice (some pd78) pn21 pc21))) ?_;clear F ac;intro ac F
          refine Y.pval F (X.w1 rfl (F.yl (j := 2) (d := 193) (b := false) rfl (by kernel_rfl))) rfl (X.move rfl (F.ev 12 (Vi i))) ?_;clear F ac;intro ac F
          refine Y.pval F (X.w1 rfl (F.yl (j := 2) (d := 193) (b := false) rfl (by kernel_rfl))) rfl (X.index rfl (F.ev 195 (.slice (some pd78) pn21 pc21)) (F.ev 196 (Vi i)) (X.idx (k := i) Try.underlying22 (Try.siz26 _) (by omega) (by omega) (by rw [Nat.mul_one]))) ?_;clear F ac;intro ac F
          refine Y.pval F (X.w1 rfl (F.yl (j := 2) (d := 193) (b := false) rfl (by kernel_rfl))) rfl (X.load rfl (F.ev 197 (.pointer (some (pd78.add i)))) (X.ld1 (Try.agg26 _) (hC.at 10 rfl))) ?_;clear F ac;intro ac F
          refine Y.pcall F (X.w1 rfl (F.yl (j := 2) (d := 193) (b := false) rfl (by kernel_rfl))) rfl (X.enter (F := 48) rfl (X.kc (.func (.func 48) #[] #[]) rfl) (X.a2 (F.ev 194 (.slice ia85 n ic85)) (F.ev 198 (.slice pa78 n pq78))) (enters_of Try.func48 (by kernel_rfl) rfl _)) (by have hq := same_top ia85 pa78 n ic85 n pq78 yv yv w86 hI85 pi78; rw [decide_eq_true rfl] at hq; exact hq) ?_
          clear F ac
          rintro e w88 ⟨rfl, g⟩
          refine ⟨_, rfl, ?_⟩
          intro ac F
          replace G := G.trans g
          replace hC := hC.gr g
          replace GB_ := GB_.trans g
          replace hft := hft.gr g
          replace hx := hx.gr g
          replace hy := hy.gr g
          replace hm := hm.gr g
          replace hf2 := hf2.gr g
          replace hR21 := hR21.gr g
          replace hnow := hnow.gr g
          replace pi78 := pi78.gr g
          replace hPk := hPk.gr g
          replace hI85 := hI85.gr g
          clear g
          refine Y.pval F (X.w1 rfl (F.yl (j := 2) (d := 193) (b := false) rfl (by kernel_rfl))) rfl (X.notB rfl (F.ev 199 (.bool true)) rfl) ?_;clear F ac;intro ac F
          refine Y.pv F (X.pickF rfl (F.ev 193 (.bool false)) (F.ev 200 (.bool false))) ?_;clear F ac;intro ac F
          refine Y.nil ?_
          replace F : Fr ac 316 [(4, Vp w3.heap.size), (5, Vp w4.heap.size), (7, Vp w12.heap.size), (9, .slice (some pd78) pn21 pc21), (12, Vi i), (18, .slice ia85 n ic85), (201, .bool false)] := F.sub _
          refine X.thenN ?_
          refine Y.condF (F.ev 201 (.bool false)) ?_
          refine Y.skip ?_
          refine X.thenN ?_
          refine Y.lit (by kernel_rfl) ?_
          refine Y.pv F (X.move rfl (F.ev 18 (.slice ia85 n ic85))) ?_;clear F ac;intro ac F
          refine Y.pv F (X.assign rfl (F.ev 202 (.slice ia85 n ic85))) ?_;clear F ac;intro ac F
          refine Y.nil ?_
          replace F : Fr ac 316 [(4, Vp w3.heap.size), (5, Vp w4.heap.size), (7, Vp w12.heap.size), (9, .slice (some pd78) pn21 pc21), (11, .slice ia85 n ic85), (12, Vi i)] := F.sub _
          refine X.blockN ?_
          refine X.thenN ?_
          refine Y.lit (by kernel_rfl) ?_
          refine Y.pv F (X.move rfl (F.ev 12 (Vi i))) ?_;clear F ac;intro ac F
          refine Y.pv F (X.binop rfl (F.ev 120 (Vi i)) (X.kc (Vi 1) rfl) (X.addI Try.underlying3 rfl (by omega) (by omega))) ?_;clear F ac;intro ac F
          refine Y.pv F (X.assign rfl (F.ev 121 (Vi ((i : Int) + 1)))) ?_;clear F ac;intro ac F
          refine Y.nil ?_
          replace F : Fr ac 316 [(4, Vp w3.heap.size), (5, Vp w4.heap.size), (7, Vp w12.heap.size), (9, .slice (some pd78) pn21 pc21), (11, .slice ia85 n ic85), (12, Vi ((i : Int) + 1))] := F.sub _
          refine X.thenN ?_
          refine ⟨_, ?_, i + 1, ia85, ic85, rfl, GB_, by omega, (by rw [pAt_succ, ← hY]; exact hI85), F.sub _⟩
          omega
         | true =>
          try rw [h80] at F
          have h80p : ((j : Int) < n) := of_decide_eq_true h80
          refine Y.condT (F.ev 133 (.bool true)) ?_
          refine Y.skip ?_
          refine X.thenN ?_
          refine Y.seq ?_
          refine Y.block ?_
          refine Y.seq ?_
          refine Y.seq ?_
          obtain ⟨pd89, pe89, -, pc89⟩ := pi78.at (j := j) (by omega)
          subst pe89
          replace hC : RCells w79 [(Ad w.heap.size 0, .slice ta tn tc), (Ad w.heap.size 1, .slice ca cn cc), (Ad w3.heap.size 0, .slice a n c), (Ad w3.heap.size 1, .slice b m d), (Ad w4.heap.size 0, Vi bu), (Ad w4.heap.size 1, Vi se), (Ad w4.heap.size 2, .slice ma mn mc), (Ad w4.heap.size 3, .string data), (Ad w12.heap.size 0, .slice ra tn rcc), (Ad w12.heap.size 1, .slice (some ⟨cg, 0, none⟩) cn ccg), (pd78.add i, .slice (some pd89) n pq78), (pd89.add j, Vi (yv[j]?.getD 0))] := hC.append ((RCells.cons pc89 (RCells.nil _)))
          clear pc89
          obtain ⟨pd90, pe90, -, pc90⟩ := hnow.at (j := j) (by omega)
          subst pe90
          replace hC : RCells w79 [(Ad w.heap.size 0, .slice ta tn tc), (Ad w.heap.size 1, .slice ca cn cc), (Ad w3.heap.size 0, .slice a n c), (Ad w3.heap.size 1, .slice b m d), (Ad w4.heap.size 0, Vi bu), (Ad w4.heap.size 1, Vi se), (Ad w4.heap.size 2, .slice ma mn mc), (Ad w4.heap.size 3, .string data), (Ad w12.heap.size 0, .slice ra tn rcc), (Ad w12.heap.size 1, .slice (some ⟨cg, 0, none⟩) cn ccg), (pd78.add i, .slice (some pd89) n pq78), (pd89.add j, Vi (yv[j]?.getD 0)), (pd90.add j, Vi (xv[j]?.getD 0))] := hC.append ((RCells.cons pc90 (RCells.nil _)))
          clear pc90
          refine Y.region F [some (.slice (some pd78) pn21 pc21), some (Vi i), some (.pointer (some (pd78.add i))), some (.slice (some pd89) n pq78), some (Vi j), some (.pointer (some (pd89.add j))), some (Vi (yv[j]?.getD 0)), some (.slice (some pd90) n nc2), some (Vi j), some (.pointer (some (pd90.add j))), some (Vi (xv[j]?.getD 0)), some (.bool ((yv[j]?.getD 0 : Int) == (xv[j]?.getD 0)))] [] rfl ⟨by kernel_rfl, of_decide_eq_true (by kernel_rfl), by kernel_rfl, by kernel_rfl, by kernel_rfl⟩ ⟨?_, ?_, ?_, ?_, ?_, ?_, ?_, ?_, ?_, ?_, ?_, ?_, trivial⟩ ?_
          ·intro ac done u W Sx hR
           exact X.vl (X.move rfl (Sx.ev 9 (.slice (some pd78) pn21 pc21))) hR.st0
          ·intro ac done u W Sx hR
           exact X.vl (X.move rfl (Sx.ev 12 (Vi i))) hR.st0
          ·intro ac done u W Sx hR
           exact X.val (X.w0 rfl) rfl (X.index rfl (Sx.ev 136 (.slice (some pd78) pn21 pc21)) (Sx.ev 137 (Vi i)) (X.idx (k := i) Try.underlying22 (Try.siz26 _) (by omega) (by omega) (by rw [Nat.mul_one]))) hR.st0
          ·intro ac done u W Sx hR
           have g : Gr w79 W := hR.1
           exact X.vl (X.load rfl (Sx.ev 138 (.pointer (some (pd78.add i)))) (X.ld1 (Try.agg26 _) ((hC.gr g).at 10 rfl))) hR.st0
          ·intro ac done u W Sx hR
           exact X.vl (X.move rfl (Sx.ev 14 (Vi j))) hR.st0
          ·intro ac done u W Sx hR
           exact X.val (X.w0 rfl) rfl (X.index rfl (Sx.ev 139 (.slice (some pd89) n pq78)) (Sx.ev 140 (Vi j)) (X.idx (k := j) Try.underlying26 (Try.siz3 _) (by omega) (by omega) (by rw [Nat.mul_one]))) hR.st0
          ·intro ac done u W Sx hR
           have g : Gr w79 W := hR.1
           exact X.vl (X.load rfl (Sx.ev 141 (.pointer (some (pd89.add j)))) (X.ld1 (Try.agg3 _) ((hC.gr g).at 11 rfl))) hR.st0
          ·intro ac done u W Sx hR
           exact X.vl (X.move rfl (Sx.ev 11 (.slice (some pd90) n nc2))) hR.st0
          ·intro ac done u W Sx hR
           exact X.vl (X.move rfl (Sx.ev 14 (Vi j))) hR.st0
          ·intro ac done u W Sx hR
           exact X.val (X.w0 rfl) rfl (X.index rfl (Sx.ev 143 (.slice (some pd90) n nc2)) (Sx.ev 144 (Vi j)) (X.idx (k := j) Try.underlying26 (Try.siz3 _) (by omega) (by omega) (by rw [Nat.mul_one]))) hR.st0
          ·intro ac done u W Sx hR
           have g : Gr w79 W := hR.1
           exact X.vl (X.load rfl (Sx.ev 145 (.pointer (some (pd90.add j)))) (X.ld1 (Try.agg3 _) ((hC.gr g).at 12 rfl))) hR.st0
          ·intro ac done u W Sx hR
           exact X.vl (X.binop rfl (Sx.ev 142 (Vi (yv[j]?.getD 0))) (Sx.ev 146 (Vi (xv[j]?.getD 0))) (X.eqlI Try.underlying3 rfl)) hR.st0
          intro ac u w91 hs hd hl ho hR
          have g : Gr w79 w91 := hR.1
          replace F : Fr ac 316 [(4, Vp w3.heap.size), (5, Vp w4.heap.size), (7, Vp w12.heap.size), (9, .slice (some pd78) pn21 pc21), (11, .slice (some pd90) n nc2), (12, Vi i), (13, v), (14, Vi j), (147, .bool ((yv[j]?.getD 0 : Int) == (xv[j]?.getD 0)))] := X.fr hs hd hl _ (by kernel_rfl)
          clear hs hd hl ho hR
          replace G := G.trans g
          replace hC := hC.gr g
          replace GW := GW.trans g
          replace hft := hft.gr g
          replace hx := hx.gr g
          replace hy := hy.gr g
          replace hm := hm.gr g
          replace hf2 := hf2.gr g
          replace hR21 := hR21.gr g
          replace hG24 := hG24.gr g
          replace hnow := hnow.gr g
          replace pi78 := pi78.gr g
          replace hO := hO.gr g
          clear g
          refine X.thenN ?_
          cases h92 : ((yv[j]?.getD 0 : Int) == (xv[j]?.getD 0)) with
          | false =>
           try rw [h92] at F
           have h92p : ¬ (yv[j]?.getD 0 : Int) = (xv[j]?.getD 0) := by simpa using h92
           refine Y.condF (F.ev 147 (.bool false)) ?_
           refine Y.skip ?_
           refine X.thenN ?_
           refine Y.seq ?_
           refine Y.regionS F [some (Vi j), some (.slice (some pd78) pn21 pc21), some (Vi i), some (.pointer (some (pd78.add i))), some (.slice (some pd89) n pq78), some (Vi j), some (.pointer (some (pd89.add j))), some (Vi (yv[j]?.getD 0)), some (.pointer (some ⟨w4.heap.size, 3, none⟩)), some (.string data), some (.agg #[Vi j, Vi (yv[j]?.getD 0), .string data, Vi 0]), none, none] [(11, MP.var46 w91.heap.size)] 12 (fun u W => ∃ b, u 11 = Vp b ∧ Y.Own W b 4 (lv4 (Vi j) (Vi (yv[j]?.getD 0)) (.string data) (Vi 0)) ∧ w91.heap.size ≤ b ∧ Gr w91 W) rfl ⟨by kernel_rfl, of_decide_eq_true (by kernel_rfl), by kernel_rfl, by kernel_rfl, by kernel_rfl⟩ (of_decide_eq_true (by kernel_rfl)) ⟨?_, ?_, ?_, ?_, ?_, ?_, ?_, ?_, ?_, ?_, ?_, ?_, ?_, trivial⟩ ?_
           ·intro ac done u W Sx hT
            have hs := Sx.no 12 (by kernel_rfl)
            have hR := hT.1 hs
            exact X.vl (X.move rfl (Sx.ev 14 (Vi j))) (Y.RT.of hs rfl hR.st0)
           ·intro ac done u W Sx hT
            have hs := Sx.no 12 (by kernel_rfl)
            have hR := hT.1 hs
            exact X.vl (X.move rfl (Sx.ev 9 (.slice (some pd78) pn21 pc21))) (Y.RT.of hs rfl hR.st0)
           ·intro ac done u W Sx hT
            have hs := Sx.no 12 (by kernel_rfl)
            have hR := hT.1 hs
            exact X.vl (X.move rfl (Sx.ev 12 (Vi i))) (Y.RT.of hs rfl hR.st0)
           ·intro ac done u W Sx hT
            have hs := Sx.no 12 (by kernel_rfl)
            have hR := hT.1 hs
            exact X.val (X.w0 rfl) rfl (X.index rfl (Sx.ev 149 (.slice (some pd78) pn21 pc21)) (Sx.ev 150 (Vi i)) (X.idx (k := i) Try.underlying22 (Try.siz26 _) (by omega) (by omega) (by rw [Nat.mul_one]))) (Y.RT.of hs rfl hR.st0)
           ·intro ac done u W Sx hT
            have hs := Sx.no 12 (by kernel_rfl)
            have hR := hT.1 hs
            have g : Gr w91 W := hR.1
            exact X.vl (X.load rfl (Sx.ev 151 (.pointer (some (pd78.add i)))) (X.ld1 (Try.agg26 _) ((hC.gr g).at 10 rfl))) (Y.RT.of hs rfl hR.st0)
           ·intro ac done u W Sx hT
            have hs := Sx.no 12 (by kernel_rfl)
            have hR := hT.1 hs
            exact X.vl (X.move rfl (Sx.ev 14 (Vi j))) (Y.RT.of hs rfl hR.st0)
           ·intro ac done u W Sx hT
            have hs := Sx.no 12 (by kernel_rfl)
            have hR := hT.1 hs
            exact X.val (X.w0 rfl) rfl (X.index rfl (Sx.ev 152 (.slice (some pd89) n pq78)) (Sx.ev 153 (Vi j)) (X.idx (k := j) Try.underlying26 (Try.siz3 _) (by omega) (by omega) (by rw [Nat.mul_one]))) (Y.RT.of hs rfl hR.st0)
           ·intro ac done u W Sx hT
            have hs := Sx.no 12 (by kernel_rfl)
            have hR := hT.1 hs
            have g : Gr w91 W := hR.1
            exact X.vl (X.load rfl (Sx.ev 154 (.pointer (some (pd89.add j)))) (X.ld1 (Try.agg3 _) ((hC.gr g).at 11 rfl))) (Y.RT.of hs rfl hR.st0)
           ·intro ac done u W Sx hT
            have hs := Sx.no 12 (by kernel_rfl)
            have hR := hT.1 hs
            exact X.vl (X.field rfl (Sx.ev 5 (Vp w4.heap.size)) (X.fld Try.underlying71 rfl (Try.siz9 _) rfl rfl)) (Y.RT.of hs rfl hR.st0)
           ·intro ac done u W Sx hT
            have hs := Sx.no 12 (by kernel_rfl)
            have hR := hT.1 hs
            have g : Gr w91 W := hR.1
            exact X.vl (X.load rfl (Sx.ev 156 (.pointer (some ⟨w4.heap.size, 3, none⟩))) (X.ld1 (Try.agg9 _) ((hC.gr g).at 7 rfl))) (Y.RT.of hs rfl hR.st0)
           ·intro ac done u W Sx hT
            have hs := Sx.no 12 (by kernel_rfl)
            have hR := hT.1 hs
            exact X.vl (Y.bd rfl (Y.bAt012 (Sx.ev 148 (Vi j)) (Sx.ev 155 (Vi (yv[j]?.getD 0))) (Sx.ev 157 (.string data))) (Try.bd46_v _ _ _ _)) (Y.RT.of hs rfl hR.st0)
           ·intro ac done u W Sx hT
            have hs := Sx.no 12 (by kernel_rfl)
            have hR := hT.1 hs
            have g : Gr w91 W := hR.1
            exact X.valN (X.w0 rfl) rfl (Y.al rfl (Try.new46v _)) (Y.RT.of hs rfl (hR.new (q := MP.var46 w91.heap.size) (Gr.alloc _ _) rfl ⟨_, rfl, lv4_new (heap_alloc_new _ _), g.size⟩))
           ·intro ac done u W Sx hT
            have hR := hT.1 Sx.nd
            have g : Gr w91 W := hR.1
            obtain ⟨b9, e9, h9, hb9⟩ := hR.get (i := 11) (MP.var46 w91.heap.size) rfl (Sx.an 11 (by kernel_rfl))
            obtain ⟨W2, hrun, hO2, hon⟩ := lv4_st (t := 46) (y0 := (Vi j)) (y1 := (Vi (yv[j]?.getD 0))) (y2 := (.string data)) (y3 := (Vi 0)) h9 (Try.siz46 _) rfl rfl rfl rfl
            exact X.unit (X.w0 rfl) rfl (X.store rfl ((Sx.own 11 15 rfl).trans e9) (Sx.ev 158 (.agg #[Vi j, Vi (yv[j]?.getD 0), .string data, Vi 0])) hrun) (Y.RT.fin ⟨b9, e9, hO2, hb9, Y.Only.up g hon hb9⟩)
           rintro ac u w93 hs hd hl_ ho ⟨pb, e9, hPb, hpb, g⟩
           have hvp : ∀ b, v.ownBlock = some b → b < w91.heap.size := fun b e => (hO.ge e).2
           have hBp : w26.heap.size ≤ pb := by have := GW.size; omega
           replace F : Fr ac 316 [(4, Vp w3.heap.size), (5, Vp w4.heap.size), (7, Vp w12.heap.size), (9, .slice (some pd78) pn21 pc21), (11, .slice (some pd90) n nc2), (12, Vi i), (13, v), (14, Vi j)] := X.fr hs hd hl_ _ (by kernel_rfl)
           replace F := F.add (ho 11 15 rfl) e9
           replace F : Fr ac 316 [(4, Vp w3.heap.size), (5, Vp w4.heap.size), (7, Vp w12.heap.size), (9, .slice (some pd78) pn21 pc21), (11, .slice (some pd90) n nc2), (12, Vi i), (13, v), (14, Vi j), (15, Vp pb)] := F.sub _
           clear hs hd hl_ ho e9 u
           replace G := G.trans g
           replace hC := hC.gr g
           replace GW := GW.trans g
           replace hft := hft.gr g
           replace hx := hx.gr g
           replace hy := hy.gr g
           replace hm := hm.gr g
           replace hf2 := hf2.gr g
           replace hR21 := hR21.gr g
           replace hnow := hnow.gr g
           replace pi78 := pi78.gr g
           replace hO := hO.gr g
           clear g
           replace hC : RCells w93 [(Ad w.heap.size 0, .slice ta tn tc), (Ad w.heap.size 1, .slice ca cn cc), (Ad w3.heap.size 0, .slice a n c), (Ad w3.heap.size 1, .slice b m d), (Ad w4.heap.size 0, Vi bu), (Ad w4.heap.size 1, Vi se), (Ad w4.heap.size 2, .slice ma mn mc), (Ad w4.heap.size 3, .string data), (Ad w12.heap.size 0, .slice ra tn rcc), (Ad w12.heap.size 1, .slice (some ⟨cg, 0, none⟩) cn ccg), (pd78.add i, .slice (some pd89) n pq78), (pd89.add j, Vi (yv[j]?.getD 0)), (pd90.add j, Vi (xv[j]?.getD 0)), (Ad pb 0, Vi j), (Ad pb 1, Vi (yv[j]?.getD 0)), (Ad pb 2, .string data), (Ad pb 3, Vi 0)] := hC.append ((RCells.cons (hPb.cell (k := 0) (by decide)) (RCells.cons (hPb.cell (k := 1) (by decide)) (RCells.cons (hPb.cell (k := 2) (by decide)) (RCells.cons (hPb.cell (k := 3) (by decide)) (RCells.nil _))))))
           refine X.thenN ?_
           refine Y.seqJ (fun ac wr => Gr w26 wr ∧ OwnR wr w26.heap.size 46 4 v (pkS xv yv se dt j).length (flatP (pkS xv yv se dt j)) ∧ Y.Own wr pb 4 (lv4 (Vi j) (Vi (yv[j]?.getD 0)) (.string dt) (Vi 0)) ∧ Fr ac 316 [(4, Vp w3.heap.size), (5, Vp w4.heap.size), (7, Vp w12.heap.size), (9, .slice (some pd78) pn21 pc21), (11, .slice (some pd90) n nc2), (12, Vi i), (13, v), (14, Vi j), (15, Vp pb)]) ?_ ?_
           ·refine Y.seq ?_
            refine Y.lit (by kernel_rfl) ?_
            refine Y.pv F (X.field rfl (F.ev 15 (Vp pb)) (X.fld Try.underlying46 rfl (Try.siz9 _) rfl rfl)) ?_;clear F ac;intro ac F
            refine Y.pv F (X.load rfl (F.ev 159 (.pointer (some ⟨pb, 2, none⟩))) (X.ld1 (Try.agg9 _) (hC.at 15 rfl))) ?_;clear F ac;intro ac F
            refine Y.pv F (Y.lenS Try.underlying9 rfl (F.ev 160 (.string data))) ?_;clear F ac;intro ac F
            refine Y.pv F (X.binop rfl (F.ev 161 (Vi (data.size : Nat))) (X.kc (Vi 50) rfl) (X.gtrI Try.underlying3 rfl)) ?_;clear F ac;intro ac F
            refine Y.nil ?_
            replace F : Fr ac 316 [(4, Vp w3.heap.size), (5, Vp w4.heap.size), (7, Vp w12.heap.size), (9, .slice (some pd78) pn21 pc21), (11, .slice (some pd90) n nc2), (12, Vi i), (13, v), (14, Vi j), (15, Vp pb), (162, .bool (decide ((50 : Int) < (data.size : Nat))))] := F.sub _
            refine X.thenN ?_
            cases h94 : decide ((50 : Int) < (data.size : Nat)) with
            | false =>
             try rw [h94] at F
             have h94p : ¬ ((50 : Int) < (data.size : Nat)) := of_decide_eq_false h94
             refine Y.condF (F.ev 162 (.bool false)) ?_
             refine Y.skip ?_
             refine X.thenN ?_
             exact ⟨GW, hO, by rw [show dt = data by rw [hdt, if_neg (by omega)]]; exact hPb, F.sub _⟩
            | true =>
             try rw [h94] at F
             have h94p : ((50 : Int) < (data.size : Nat)) := of_decide_eq_true h94
             refine Y.condT (F.ev 162 (.bool true)) ?_
             refine Y.lit (by kernel_rfl) ?_
             refine Y.pv F (X.field rfl (F.ev 15 (Vp pb)) (X.fld Try.underlying46 rfl (Try.siz9 _) rfl rfl)) ?_;clear F ac;intro ac F
             obtain ⟨w95, hrun, hO1, hon⟩ := Y.Own.st1 (t := 9) (k := 2) (v := (.string (ByteArray.mk #[]))) hPb (Try.siz9 _) rfl rfl (by decide)
             have hO2 := lv4_one (y0 := (Vi j)) (y1 := (Vi (yv[j]?.getD 0))) (y2 := (.string (ByteArray.mk #[]))) (y3 := (Vi 0)) hO1 rfl rfl rfl rfl
             clear hO1
             refine Y.punit F (X.w0 rfl) rfl (X.store rfl (F.ev 163 (.pointer (some ⟨pb, 2, none⟩))) (X.kc (.string (ByteArray.mk #[])) rfl) hrun) ?_
             clear F ac hrun
             intro ac F
             replace hPb := hO2
             clear hO2
             replace GW := Y.Only.up GW hon hBp
             replace hO := hO.only hon (fun b e h => by have h1 := hvp b e; have h2 : b = pb := h; omega)
             clear hon
             replace G := G0_.trans GW
             replace hft := hft0.gr GW
             replace hx := hx0.gr GW
             replace hy := hy0.gr GW
             replace hm := hm0.gr GW
             replace hf2 := hf20.gr GW
             replace hR21 := hR210.gr GW
             have hG24 := hG240.gr GW
             replace hnow := hnow0.gr GW
             replace pi78 := pi780.gr GW
             replace hC := hC0.gr GW
             replace hC : RCells w95 [(Ad w.heap.size 0, .slice ta tn tc), (Ad w.heap.size 1, .slice ca cn cc), (Ad w3.heap.size 0, .slice a n c), (Ad w3.heap.size 1, .slice b m d), (Ad w4.heap.size 0, Vi bu), (Ad w4.heap.size 1, Vi se), (Ad w4.heap.size 2, .slice ma mn mc), (Ad w4.heap.size 3, .string data), (Ad w12.heap.size 0, .slice ra tn rcc), (Ad w12.heap.size 1, .slice (some ⟨cg, 0, none⟩) cn ccg), (pd78.add i, .slice (some pd89) n pq78), (Ad pb 0, Vi j), (Ad pb 1, Vi (yv[j]?.getD 0)), (Ad pb 2, .string (ByteArray.mk #[])), (Ad pb 3, Vi 0)] := hC.append ((RCells.cons (hPb.cell (k := 0) (by decide)) (RCells.cons (hPb.cell (k := 1) (by decide)) (RCells.cons (hPb.cell (k := 2) (by decide)) (RCells.cons (hPb.cell (k := 3) (by decide)) (RCells.nil _))))))
             refine Y.nil ?_
             replace F : Fr ac 316 [(4, Vp w3.heap.size), (5, Vp w4.heap.size), (7, Vp w12.heap.size), (9, .slice (some pd78) pn21 pc21), (11, .slice (some pd90) n nc2), (12, Vi i), (13, v), (14, Vi j), (15, Vp pb)] := F.sub _
             refine X.thenN ?_
             exact ⟨GW, hO, by rw [show dt = ByteArray.mk #[] by rw [hdt, if_pos (by omega)]]; exact hPb, F.sub _⟩
           ·clear F ac G GW hC hft hx hy hm hf2 hR21 hnow pi78 hO hPb
            rintro ac w96 ⟨GW, hO, hPb, F⟩
            have G := G0_
            have hC := hC0
            replace G := G0_.trans GW
            have hft := hft0.gr GW
            have hx := hx0.gr GW
            have hy := hy0.gr GW
            have hm := hm0.gr GW
            have hf2 := hf20.gr GW
            have hR21 := hR210.gr GW
            have hG24 := hG240.gr GW
            have hnow := hnow0.gr GW
            have pi78 := pi780.gr GW
            replace hC := hC0.gr GW
            replace hC : RCells w96 [(Ad w.heap.size 0, .slice ta tn tc), (Ad w.heap.size 1, .slice ca cn cc), (Ad w3.heap.size 0, .slice a n c), (Ad w3.heap.size 1, .slice b m d), (Ad w4.heap.size 0, Vi bu), (Ad w4.heap.size 1, Vi se), (Ad w4.heap.size 2, .slice ma mn mc), (Ad w4.heap.size 3, .string data), (Ad w12.heap.size 0, .slice ra tn rcc), (Ad w12.heap.size 1, .slice (some ⟨cg, 0, none⟩) cn ccg), (pd78.add i, .slice (some pd89) n pq78), (Ad pb 0, Vi j), (Ad pb 1, Vi (yv[j]?.getD 0)), (Ad pb 2, .string dt), (Ad pb 3, Vi 0)] := hC.append ((RCells.cons (hPb.cell (k := 0) (by decide)) (RCells.cons (hPb.cell (k := 1) (by decide)) (RCells.cons (hPb.cell (k := 2) (by decide)) (RCells.cons (hPb.cell (k := 3) (by decide)) (RCells.nil _))))))
            refine Y.seq ?_
            refine Y.lit (by kernel_rfl) ?_
            refine Y.pv F (X.field rfl (F.ev 5 (Vp w4.heap.size)) (X.fld Try.underlying71 rfl (Try.siz3 _) rfl rfl)) ?_;clear F ac;intro ac F
            refine Y.pv F (X.load rfl (F.ev 165 (.pointer (some ⟨w4.heap.size, 1, none⟩))) (X.ld1 (Try.agg3 _) (hC.at 5 rfl))) ?_;clear F ac;intro ac F
            refine Y.pv F (X.load rfl (F.ev 15 (Vp pb)) (X.ldN (Try.agg46 _) (Try.siz46 _) (Y.atz (⟨pb, 0, none⟩) (Y.AtFrom.cons (hC.at 11 rfl) (Y.AtFrom.cons (hC.at 12 rfl) (Y.AtFrom.cons (hC.at 13 rfl) (Y.AtFrom.cons (hC.at 14 rfl) (Y.AtFrom.nil _ _ _)))))))) ?_;clear F ac;intro ac F
            refine Y.pcall F (X.w0 rfl) rfl (X.enter (F := 25) rfl (X.kc (.func (.func 25) #[] #[]) rfl) (X.a2 (F.ev 166 (Vi se)) (F.ev 167 (.agg #[Vi j, Vi (yv[j]?.getD 0), .string dt, Vi 0]))) (enters_of Try.func25 (by kernel_rfl) rfl _)) (Tag_any se j (yv[j]?.getD 0) 0 dt w96 hdz) ?_
            clear F ac
            rintro e w98 ⟨rfl, g⟩
            refine ⟨_, rfl, ?_⟩
            intro ac F
            replace G := G.trans g
            replace hC := hC.gr g
            replace GW := GW.trans g
            replace hft := hft.gr g
            replace hx := hx.gr g
            replace hy := hy.gr g
            replace hm := hm.gr g
            replace hf2 := hf2.gr g
            replace hR21 := hR21.gr g
            replace hG24 := hG24.gr g
            replace hnow := hnow.gr g
            replace pi78 := pi78.gr g
            replace hO := hO.gr g
            replace hPb := hPb.gr g
            clear g
            refine Y.pv F (X.move rfl (F.ev 168 (.tuple #[Vi (tagR se j (yv[j]?.getD 0) dt), Vi (tagE se j (yv[j]?.getD 0) dt)]))) ?_;clear F ac;intro ac F
            refine Y.pv F (X.extract rfl (F.ev 164 (.tuple #[Vi (tagR se j (yv[j]?.getD 0) dt), Vi (tagE se j (yv[j]?.getD 0) dt)])) rfl) ?_;clear F ac;intro ac F
            refine Y.pv F (X.extract rfl (F.ev 164 (.tuple #[Vi (tagR se j (yv[j]?.getD 0) dt), Vi (tagE se j (yv[j]?.getD 0) dt)])) rfl) ?_;clear F ac;intro ac F
            refine Y.pv F (X.assign rfl (F.ev 169 (Vi (tagR se j (yv[j]?.getD 0) dt)))) ?_;clear F ac;intro ac F
            refine Y.pv F (X.assign rfl (F.ev 170 (Vi (tagE se j (yv[j]?.getD 0) dt)))) ?_;clear F ac;intro ac F
            refine Y.nil ?_
            replace F : Fr ac 316 [(4, Vp w3.heap.size), (5, Vp w4.heap.size), (7, Vp w12.heap.size), (9, .slice (some pd78) pn21 pc21), (11, .slice (some pd90) n nc2), (12, Vi i), (13, v), (14, Vi j), (15, Vp pb), (16, Vi (tagR se j (yv[j]?.getD 0) dt)), (17, Vi (tagE se j (yv[j]?.getD 0) dt))] := F.sub _
            refine X.thenN ?_
            refine Y.seq ?_
            refine Y.seq ?_
            refine Y.lit (by kernel_rfl) ?_
            refine Y.pv F (X.move rfl (F.ev 17 (Vi (tagE se j (yv[j]?.getD 0) dt)))) ?_;clear F ac;intro ac F
            refine Y.pv F (X.binop rfl (F.ev 171 (Vi (tagE se j (yv[j]?.getD 0) dt))) (X.kc (Vi 0) rfl) (X.neqI Try.underlying31 rfl)) ?_;clear F ac;intro ac F
            refine Y.nil ?_
            replace F : Fr ac 316 [(4, Vp w3.heap.size), (5, Vp w4.heap.size), (7, Vp w12.heap.size), (9, .slice (some pd78) pn21 pc21), (11, .slice (some pd90) n nc2), (12, Vi i), (13, v), (14, Vi j), (15, Vp pb), (16, Vi (tagR se j (yv[j]?.getD 0) dt)), (172, .bool ((tagE se j (yv[j]?.getD 0) dt : Int) != 0))] := F.sub _
            refine X.thenN ?_
            cases h99 : ((tagE se j (yv[j]?.getD 0) dt : Int) != 0) with
            | false =>
             try rw [h99] at F
             have h99p : (tagE se j (yv[j]?.getD 0) dt : Int) = 0 := by simpa using h99
             have htz : tagE se 0 0 dt = 0 := tag_free h99p (by decide) (by decide)
             refine Y.condF (F.ev 172 (.bool false)) ?_
             refine Y.skip ?_
             refine X.thenN ?_
             refine Y.seq ?_
             refine Y.lit (by kernel_rfl) ?_
             refine Y.pv F (X.move rfl (F.ev 16 (Vi (tagR se j (yv[j]?.getD 0) dt)))) ?_;clear F ac;intro ac F
             refine Y.pv F (X.field rfl (F.ev 15 (Vp pb)) (X.fld Try.underlying46 rfl (Try.siz3 _) rfl rfl)) ?_;clear F ac;intro ac F
             obtain ⟨w100, hrun, hO1, hon⟩ := Y.Own.st1 (t := 3) (k := 3) (v := (Vi (tagR se j (yv[j]?.getD 0) dt))) hPb (Try.siz3 _) rfl rfl (by decide)
             have hO2 := lv4_one (y0 := (Vi j)) (y1 := (Vi (yv[j]?.getD 0))) (y2 := (.string dt)) (y3 := (Vi (tagR se j (yv[j]?.getD 0) dt))) hO1 rfl rfl rfl rfl
             clear hO1
             refine Y.punit F (X.w0 rfl) rfl (X.store rfl (F.ev 175 (.pointer (some ⟨pb, 3, none⟩))) (F.ev 174 (Vi (tagR se j (yv[j]?.getD 0) dt))) hrun) ?_
             clear F ac hrun
             intro ac F
             replace hPb := hO2
             clear hO2
             replace GW := Y.Only.up GW hon hBp
             replace hO := hO.only hon (fun b e h => by have h1 := hvp b e; have h2 : b = pb := h; omega)
             clear hon
             replace G := G0_.trans GW
             replace hft := hft0.gr GW
             replace hx := hx0.gr GW
             replace hy := hy0.gr GW
             replace hm := hm0.gr GW
             replace hf2 := hf20.gr GW
             replace hR21 := hR210.gr GW
             replace hG24 := hG240.gr GW
             replace hnow := hnow0.gr GW
             replace pi78 := pi780.gr GW
             replace hC := hC0.gr GW
             replace hC : RCells w100 [(Ad w.heap.size 0, .slice ta tn tc), (Ad w.heap.size 1, .slice ca cn cc), (Ad w3.heap.size 0, .slice a n c), (Ad w3.heap.size 1, .slice b m d), (Ad w4.heap.size 0, Vi bu), (Ad w4.heap.size 1, Vi se), (Ad w4.heap.size 2, .slice ma mn mc), (Ad w4.heap.size 3, .string data), (Ad w12.heap.size 0, .slice ra tn rcc), (Ad w12.heap.size 1, .slice (some ⟨cg, 0, none⟩) cn ccg), (pd78.add i, .slice (some pd89) n pq78), (Ad pb 0, Vi j), (Ad pb 1, Vi (yv[j]?.getD 0)), (Ad pb 2, .string dt), (Ad pb 3, Vi (tagR se j (yv[j]?.getD 0) dt))] := hC.append ((RCells.cons (hPb.cell (k := 0) (by decide)) (RCells.cons (hPb.cell (k := 1) (by decide)) (RCells.cons (hPb.cell (k := 2) (by decide)) (RCells.cons (hPb.cell (k := 3) (by decide)) (RCells.nil _))))))
             refine Y.nil ?_
             replace F : Fr ac 316 [(4, Vp w3.heap.size), (5, Vp w4.heap.size), (7, Vp w12.heap.size), (9, .slice (some pd78) pn21 pc21), (11, .slice (some pd90) n nc2), (12, Vi i), (13, v), (14, Vi j), (15, Vp pb)] := F.sub _
             refine X.thenN ?_
             refine Y.lit (by kernel_rfl) ?_
             refine Y.pv F (X.move rfl (F.ev 13 (v))) ?_;clear F ac;intro ac F
             refine Y.pv F (X.load rfl (F.ev 15 (Vp pb)) (X.ldN (Try.agg46 _) (Try.siz46 _) (Y.atz (⟨pb, 0, none⟩) (Y.AtFrom.cons (hC.at 11 rfl) (Y.AtFrom.cons (hC.at 12 rfl) (Y.AtFrom.cons (hC.at 13 rfl) (Y.AtFrom.cons (hC.at 14 rfl) (Y.AtFrom.nil _ _ _)))))))) ?_;clear F ac;intro ac F
             refine Y.pv F (X.bs rfl (X.b1 (F.ev 177 (.agg #[Vi j, Vi (yv[j]?.getD 0), .string dt, Vi (tagR se j (yv[j]?.getD 0) dt)]))) (Try.bs53_v _ _ _ _ _)) ?_;clear F ac;intro ac F
             have g := Gr.alloc w100 (.cells #[Vi j, Vi (yv[j]?.getD 0), .string dt, Vi (tagR se j (yv[j]?.getD 0) dt)] 46)
             have hb := heap_alloc_new w100 (.cells #[Vi j, Vi (yv[j]?.getD 0), .string dt, Vi (tagR se j (yv[j]?.getD 0) dt)] 46)
             have hbl : w100.heap.size < (w100.alloc (.cells #[Vi j, Vi (yv[j]?.getD 0), .string dt, Vi (tagR se j (yv[j]?.getD 0) dt)] 46)).heap.size := by simp
             generalize w100.alloc (.cells #[Vi j, Vi (yv[j]?.getD 0), .string dt, Vi (tagR se j (yv[j]?.getD 0) dt)] 46) = w101 at *
             replace G := G.trans g
             replace hC := hC.gr g
             replace GW := GW.trans g
             replace hft := hft.gr g
             replace hx := hx.gr g
             replace hy := hy.gr g
             replace hm := hm.gr g
             replace hf2 := hf2.gr g
             replace hR21 := hR21.gr g
             replace hG24 := hG24.gr g
             replace hnow := hnow.gr g
             replace pi78 := pi78.gr g
             replace hO := hO.gr g
             replace hPb := hPb.gr g
             have hbk := hb
             clear g hb hbl
             refine Y.wpL_plain rfl fun _ hK => wp_pushV Try.underlying53 Try.info46 rfl (by decide) rfl (F.ev 176 (v)) (F.ev 178 (.slice (some ⟨w100.heap.size, 0, none⟩) 1 1)) hO (m := 1) (news := [Vi j, Vi (yv[j]?.getD 0), .string dt, Vi (tagR se j (yv[j]?.getD 0) dt)]) rfl (cells_at (vs := [Vi j, Vi (yv[j]?.getD 0), .string dt, Vi (tagR se j (yv[j]?.getD 0) dt)]) hbk) rfl (by have := pkS_len (xs := xv) (ys := yv) (se := se) (data := dt) j; omega) (by decide) GW.size (fun v_w102 w102 hO' hon hat => hK _ _ ?_)
             refine Y.pput F rfl ?_
             clear F ac hbk
             intro ac F
             have hge := fun b e => (hO.ge (b := b) e).1
             replace GW := Gr.own GW hon hge
             clear hO hge hon hat
             have hO := hO'
             clear hO'
             replace G := G0_.trans GW
             replace hft := hft0.gr GW
             replace hx := hx0.gr GW
             replace hy := hy0.gr GW
             replace hm := hm0.gr GW
             replace hf2 := hf20.gr GW
             replace hR21 := hR210.gr GW
             replace hG24 := hG240.gr GW
             replace hnow := hnow0.gr GW
             replace pi78 := pi780.gr GW
             replace hC := hC0.gr GW
             refine Y.pv F (X.assign rfl (F.ev 179 (v_w102))) ?_;clear F ac;intro ac F
             refine Y.nil ?_
             replace F : Fr ac 316 [(4, Vp w3.heap.size), (5, Vp w4.heap.size), (7, Vp w12.heap.size), (9, .slice (some pd78) pn21 pc21), (11, .slice (some pd90) n nc2), (12, Vi i), (13, v_w102), (14, Vi j)] := F.sub _
             refine X.blockN ?_
             refine X.thenN ?_
             refine Y.lit (by kernel_rfl) ?_
             refine Y.pv F (X.move rfl (F.ev 14 (Vi j))) ?_;clear F ac;intro ac F
             refine Y.pv F (X.binop rfl (F.ev 134 (Vi j)) (X.kc (Vi 1) rfl) (X.addI Try.underlying3 rfl (by omega) (by omega))) ?_;clear F ac;intro ac F
             refine Y.pv F (X.assign rfl (F.ev 135 (Vi ((j : Int) + 1)))) ?_;clear F ac;intro ac F
             refine Y.nil ?_
             replace F : Fr ac 316 [(4, Vp w3.heap.size), (5, Vp w4.heap.size), (7, Vp w12.heap.size), (9, .slice (some pd78) pn21 pc21), (11, .slice (some pd90) n nc2), (12, Vi i), (13, v_w102), (14, Vi ((j : Int) + 1))] := F.sub _
             refine X.thenN ?_
             have hpk : pkS xv yv se dt (j + 1) = pkS xv yv se dt j ++ [pkC yv se dt j] := by simp only [pkS]; rw [if_neg h92p]
             refine ⟨_, ?_, j + 1, v_w102, rfl, by omega, GW, .inr htz, by rw [hpk, List.length_append, flatP_app]; exact hO, F.sub _⟩
             omega
            | true =>
             try rw [h99] at F
             have h99p : ¬ (tagE se j (yv[j]?.getD 0) dt : Int) = 0 := by simpa using h99
             refine Y.condT (F.ev 172 (.bool true)) ?_
             refine Y.seq ?_
             refine Y.lit (by kernel_rfl) ?_
             refine Y.pcall F (X.w0 rfl) rfl (X.enter (F := 46) rfl (X.kc (.func (.func 46) #[] #[]) rfl) rfl (enters_of Try.func46 (by kernel_rfl) rfl _)) (counts_any w98) ?_
             clear F ac
             rintro e w104 ⟨rfl, g⟩
             refine ⟨_, rfl, ?_⟩
             intro ac F
             replace G := G.trans g
             replace hC := hC.gr g
             replace GW := GW.trans g
             replace hft := hft.gr g
             replace hx := hx.gr g
             replace hy := hy.gr g
             replace hm := hm.gr g
             replace hf2 := hf2.gr g
             replace hR21 := hR21.gr g
             replace hG24 := hG24.gr g
             replace hnow := hnow.gr g
             replace pi78 := pi78.gr g
             replace hO := hO.gr g
             replace hPb := hPb.gr g
             clear g
             refine Y.pv F (X.assign rfl (F.ev 173 (.bool true))) ?_;clear F ac;intro ac F
             refine Y.nil ?_
             replace F : Fr ac 316 [(6, .bool true)] := F.sub _
             refine X.thenN ?_
             refine Y.ret ?_
             refine X.thenR ?_
             refine X.blockR ?_
             refine X.thenR ?_
             refine X.thenR ?_
             refine X.blockR ?_
             refine X.thenR ?_
             refine X.blockR ?_
             refine X.thenR ?_
             refine X.thenR ?_
             refine X.blockR ?_
             refine X.thenR ?_
             exact Y.ret0 (v := .bool true) F (Y.rs1 F rfl (by kernel_rfl)) ⟨rfl, G⟩
          | true =>
           try rw [h92] at F
           have h92p : (yv[j]?.getD 0 : Int) = (xv[j]?.getD 0) := by simpa using h92
           refine Y.condT (F.ev 147 (.bool true)) ?_
           refine Y.exit ?_
           refine X.thenX ?_
           refine X.blockX ?_
           refine X.thenN ?_
           refine Y.lit (by kernel_rfl) ?_
           refine Y.pv F (X.move rfl (F.ev 14 (Vi j))) ?_;clear F ac;intro ac F
           refine Y.pv F (X.binop rfl (F.ev 134 (Vi j)) (X.kc (Vi 1) rfl) (X.addI Try.underlying3 rfl (by omega) (by omega))) ?_;clear F ac;intro ac F
           refine Y.pv F (X.assign rfl (F.ev 135 (Vi ((j : Int) + 1)))) ?_;clear F ac;intro ac F
           refine Y.nil ?_
           replace F : Fr ac 316 [(4, Vp w3.heap.size), (5, Vp w4.heap.size), (7, Vp w12.heap.size), (9, .slice (some pd78) pn21 pc21), (11, .slice (some pd90) n nc2), (12, Vi i), (13, v), (14, Vi ((j : Int) + 1))] := F.sub _
           refine X.thenN ?_
           have hpk : pkS xv yv se dt (j + 1) = pkS xv yv se dt j := by simp only [pkS]; rw [if_pos h92p, List.append_nil]
           refine ⟨_, ?_, j + 1, v, rfl, by omega, GW, by rw [hpk]; exact htg, by rw [hpk]; exact hO, F.sub _⟩
           omega
       | true =>
        try rw [h23] at F
        have h23p : ¬ (planE f xs ys bu : Int) = 0 := by simpa using h23
        have hz : planV f xs ys bu = [] := by unfold planV; rw [if_neg h23p]
        rw [← hPL] at hz
        have hpz : pn21 = 0 := by rw [← hpl, hz]; rfl
        refine Y.condT (F.ev 106 (.bool true)) ?_
        refine Y.seq ?_
        refine Y.lit (by kernel_rfl) ?_
        refine Y.pv F (X.move rfl (F.ev 9 (.slice pa21 pn21 pc21))) ?_;clear F ac;intro ac F
        refine Y.pv F (X.len1 Try.underlying22 rfl (F.ev 107 (.slice pa21 pn21 pc21))) ?_;clear F ac;intro ac F
        refine Y.pv F (X.binop rfl (F.ev 108 (Vi pn21)) (X.kc (Vi 0) rfl) (X.eqlI Try.underlying3 rfl)) ?_;clear F ac;intro ac F
        refine Y.pv F (X.move rfl (F.ev 109 (.bool ((pn21 : Int) == 0)))) ?_;clear F ac;intro ac F
        have h106 : ((pn21 : Int) == 0) = true := by rw [hpz]; rfl
        try rw [h106] at F
        refine Y.pcall F (X.w1 rfl (F.yl (j := 3) (d := 110) (b := true) rfl (by kernel_rfl))) rfl (X.enter (F := 46) rfl (X.kc (.func (.func 46) #[] #[]) rfl) rfl (enters_of Try.func46 (by kernel_rfl) rfl _)) (counts_any w22) ?_
        clear F ac
        rintro e w108 ⟨rfl, g⟩
        refine ⟨_, rfl, ?_⟩
        intro ac F
        replace G := G.trans g
        replace hC := hC.gr g
        replace hft := hft.gr g
        replace hx := hx.gr g
        replace hy := hy.gr g
        replace hm := hm.gr g
        replace hf2 := hf2.gr g
        replace hR21 := hR21.gr g
        clear g
        refine Y.pv F (X.pickT rfl (F.ev 110 (.bool true)) (F.ev 111 (.bool true))) ?_;clear F ac;intro ac F
        refine Y.pv F (X.assign rfl (F.ev 112 (.bool true))) ?_;clear F ac;intro ac F
        refine Y.nil ?_
        replace F : Fr ac 316 [(6, .bool true)] := F.sub _
        refine X.thenN ?_
        refine Y.ret ?_
        refine X.thenR ?_
        exact Y.ret0 (v := .bool true) F (Y.rs1 F rfl (by kernel_rfl)) ⟨rfl, G⟩
      | true =>
       try rw [h15] at F
       have h15p : ((i : Int) < tn) := of_decide_eq_true h15
       refine Y.condT (F.ev 70 (.bool true)) ?_
       refine Y.skip ?_
       refine X.thenN ?_
       refine Y.seq ?_
       refine Y.block ?_
       refine Y.seq ?_
       refine Y.seq ?_
       refine Y.lit (by kernel_rfl) ?_
       refine Y.pv F (X.field rfl (F.ev 3 (Vp w.heap.size)) (X.fld Try.underlying25 rfl (Try.siz22 _) rfl rfl)) ?_;clear F ac;intro ac F
       refine Y.pv F (X.load rfl (F.ev 73 (Vp w.heap.size)) (X.ld1 (Try.agg22 _) (hC.at 0 rfl))) ?_;clear F ac;intro ac F
       refine Y.pv F (X.move rfl (F.ev 8 (Vi i))) ?_;clear F ac;intro ac F
       obtain ⟨pd109, pa109, rn109, pq109, pe109, -, pc109, pi109⟩ := hft.at (j := i) (by omega)
       subst pe109
       replace hC : RCells w14 [(Ad w.heap.size 0, .slice (some pd109) tn tc), (Ad w.heap.size 1, .slice ca cn cc), (Ad w3.heap.size 0, .slice a n c), (Ad w3.heap.size 1, .slice b m d), (Ad w4.heap.size 0, Vi bu), (Ad w4.heap.size 1, Vi se), (Ad w4.heap.size 2, .slice ma mn mc), (Ad w4.heap.size 3, .string data), (Ad w12.heap.size 0, v), (pd109.add i, .slice pa109 rn109 pq109)] := hC.append ((RCells.cons pc109 (RCells.nil _)))
       clear pc109
       refine Y.pval F (X.w0 rfl) rfl (X.index rfl (F.ev 74 (.slice (some pd109) tn tc)) (F.ev 75 (Vi i)) (X.idx (k := i) Try.underlying22 (Try.siz26 _) (by omega) (by omega) (by rw [Nat.mul_one]))) ?_;clear F ac;intro ac F
       refine Y.pv F (X.load rfl (F.ev 76 (.pointer (some (pd109.add i)))) (X.ld1 (Try.agg26 _) (hC.at 9 rfl))) ?_;clear F ac;intro ac F
       refine Y.pv F (X.len1 Try.underlying26 rfl (F.ev 77 (.slice pa109 rn109 pq109))) ?_;clear F ac;intro ac F
       refine Y.pv F (X.binop rfl (F.ev 78 (Vi rn109)) (X.kc (Vi 10) rfl) (X.gtrI Try.underlying3 rfl)) ?_;clear F ac;intro ac F
       refine Y.nil ?_
       replace F : Fr ac 316 [(3, Vp w.heap.size), (4, Vp w3.heap.size), (5, Vp w4.heap.size), (7, Vp w12.heap.size), (8, Vi i), (79, .bool (decide ((10 : Int) < rn109)))] := F.sub _
       refine X.thenN ?_
       cases h110 : decide ((10 : Int) < rn109) with
       | false =>
        try rw [h110] at F
        have h110p : ¬ ((10 : Int) < rn109) := of_decide_eq_false h110
        refine Y.condF (F.ev 79 (.bool false)) ?_
        refine Y.skip ?_
        refine X.thenN ?_
        refine region_xi F [some (Vp w12.heap.size), some (v), some (Vp w.heap.size), some (.slice (some pd109) tn tc), some (Vi i), some (.pointer (some (pd109.add i))), some (.slice pa109 rn109 pq109), none, none, none, some (Vp w12.heap.size), none] (R5 w14 7 8 9 11 (MP.intsG rn109 (f.times[i]?.getD [])).p (fun v W => ∃ h g c, v = .slice (some ⟨h, 0, none⟩) 1 1 ∧ W.heap[h]? = some (.cells #[.slice (some ⟨g, 0, none⟩) rn109 c] 26 (0, 0)) ∧ Ints W (some ⟨g, 0, none⟩) rn109 (f.times[i]?.getD []) ∧ Is3 W g) (fun u W => FgT w12 W v (.slice (some ⟨cg, 0, none⟩) cn ccg) u (f.times.take i ++ [(f.times[i]?.getD [])])) (fun W => ∃ v2, FgI w12 W v2 (.slice (some ⟨cg, 0, none⟩) cn ccg) (f.times.take i ++ [(f.times[i]?.getD [])]))) rfl ⟨by kernel_rfl, of_decide_eq_true (by kernel_rfl), by kernel_rfl, by kernel_rfl, by kernel_rfl⟩ (fun _ => ⟨R5.start (Gr.refl _), R5.start (Gr.drew _)⟩) ⟨?_, ?_, ?_, ?_, ?_, ?_, ?_, ?_, ?_, ?_, ?_, ?_, trivial⟩ ?_
        ·intro ac done u W Sx hR
         exact X.vl (X.field rfl (Sx.ev 7 (Vp w12.heap.size)) (X.fld Try.underlying25 rfl (Try.siz22 _) rfl rfl)) (hR.quiet (by decide))
        ·intro ac done u W Sx hR
         have g : Gr w14 W := hR.g (Sx.no 9 (by kernel_rfl)) (Sx.no 11 (by kernel_rfl))
         exact X.vl (X.load rfl (Sx.ev 81 (Vp w12.heap.size)) (X.ld1 (Try.agg22 _) ((hC.gr g).at 8 rfl))) (hR.quiet (by decide))
        ·intro ac done u W Sx hR
         exact X.vl (X.field rfl (Sx.ev 3 (Vp w.heap.size)) (X.fld Try.underlying25 rfl (Try.siz22 _) rfl rfl)) (hR.quiet (by decide))
        ·intro ac done u W Sx hR
         have g : Gr w14 W := hR.g (Sx.no 9 (by kernel_rfl)) (Sx.no 11 (by kernel_rfl))
         exact X.vl (X.load rfl (Sx.ev 83 (Vp w.heap.size)) (X.ld1 (Try.agg22 _) ((hC.gr g).at 0 rfl))) (hR.quiet (by decide))
        ·intro ac done u W Sx hR
         exact X.vl (X.move rfl (Sx.ev 8 (Vi i))) (hR.quiet (by decide))
        ·intro ac done u W Sx hR
         exact X.val (X.w0 rfl) rfl (X.index rfl (Sx.ev 84 (.slice (some pd109) tn tc)) (Sx.ev 85 (Vi i)) (X.idx (k := i) Try.underlying22 (Try.siz26 _) (by omega) (by omega) (by rw [Nat.mul_one]))) (hR.quiet (by decide))
        ·intro ac done u W Sx hR
         have g : Gr w14 W := hR.g (Sx.no 9 (by kernel_rfl)) (Sx.no 11 (by kernel_rfl))
         exact X.vl (X.load rfl (Sx.ev 86 (.pointer (some (pd109.add i)))) (X.ld1 (Try.agg26 _) ((hC.gr g).at 9 rfl))) (hR.quiet (by decide))
        ·intro ac done u W Sx hR
         have g : Gr w14 W := hR.g (Sx.no 9 (by kernel_rfl)) (Sx.no 11 (by kernel_rfl))
         refine X.call (X.w0 rfl) (X.enter (F := 47) rfl (X.kc (.func (.func 47) #[] #[]) rfl) (X.a1 (Sx.ev 87 (.slice pa109 rn109 pq109))) (enters_of Try.func47 (by kernel_rfl) rfl _)) (ints_mp pa109 rn109 pq109 (f.times[i]?.getD []) W (pi109.gr g) (by omega)) ?_
         rintro e W2 ⟨v_, rfl, hp, g2⟩
         exact ⟨_, rfl, X.un rfl, hR.sa (by decide) (Sx.no 8 (by kernel_rfl)) (Sx.no 9 (by kernel_rfl)) (Sx.no 11 (by kernel_rfl)) g2 hp⟩
        ·intro ac done u W Sx hR
         obtain ⟨g7, c7, e7, hI7, h37⟩ := hR.ga (Sx.an 7 (by kernel_rfl)) Sx.nd (Sx.no 9 (by kernel_rfl)) (Sx.no 11 (by kernel_rfl))
         exact X.valN (X.w0 rfl) rfl (X.bs rfl (X.b1 ((Sx.own 7 88 rfl).trans e7)) (Try.bs22_v _ _ _ _)) (hR.sb (by decide) (Sx.no 9 (by kernel_rfl)) (Sx.no 11 (by kernel_rfl)) (Gr.alloc _ _) ⟨_, _, _, rfl, heap_alloc_new _ _, hI7.gr (Gr.alloc _ _), h37.gr (Gr.alloc _ _)⟩)
        ·intro ac done u W Sx hR
         have g : Gr w14 W := hR.g Sx.nd (Sx.no 11 (by kernel_rfl))
         obtain ⟨h8, g8, c8, e8, hh8, hI8, h38⟩ := hR.gb (Sx.an 8 (by kernel_rfl)) Sx.nd (Sx.no 11 (by kernel_rfl))
         exact X.law (X.w0 rfl) (fun K_ hK => wp_pushF rfl (Sx.ev 82 (v)) ((Sx.own 8 89 rfl).trans e8) hh8 (hFg.gr g).o (hFg.gr g).lt hI8 h38 (by rw [List.length_take]; omega) (fun v2 W2 hO2 hon hge => hK v2 W2 (fun x hx => by cases hx) (R5.sc (by decide) (Sx.no 11 (by kernel_rfl)) ((hFg.gr g).push hO2 hon hge))))
        ·intro ac done u W Sx hR
         exact X.vl (X.field rfl (Sx.ev 7 (Vp w12.heap.size)) (X.fld Try.underlying25 rfl (Try.siz22 _) rfl rfl)) (hR.quiet (by decide))
        ·intro ac done u W Sx hR
         have hT := hR.gc (Sx.an 9 (by kernel_rfl)) Sx.nd
         obtain ⟨W2, hrun, hI2⟩ := hT.store
         exact X.unit (X.w0 rfl) rfl (X.store rfl (Sx.ev 91 (Vp w12.heap.size)) (Sx.own 9 90 rfl) hrun) (R5.sd' ⟨_, hI2⟩)
        rintro ac u w111 hs hd hl_ ho hR
        obtain ⟨v2, hFg2⟩ := hR.gd rfl
        clear hFg
        have hFg := hFg2
        clear hFg2
        replace F : Fr ac 316 [(3, Vp w.heap.size), (4, Vp w3.heap.size), (5, Vp w4.heap.size), (7, Vp w12.heap.size), (8, Vi i)] := X.fr hs hd hl_ _ (by kernel_rfl)
        clear hs hd hl_ ho hR
        replace G := G_.trans hFg.g
        replace hC := hC_.gr hFg.g
        replace hft := hft_.gr hFg.g
        replace hfc := hfc_.gr hFg.g
        replace hx := hx_.gr hFg.g
        replace hy := hy_.gr hFg.g
        replace hm := hm_.gr hFg.g
        replace hcg := hcg_.gr hFg.g
        refine X.blockN ?_
        refine X.thenN ?_
        refine Y.lit (by kernel_rfl) ?_
        refine Y.pv F (X.move rfl (F.ev 8 (Vi i))) ?_;clear F ac;intro ac F
        refine Y.pv F (X.binop rfl (F.ev 71 (Vi i)) (X.kc (Vi 1) rfl) (X.addI Try.underlying3 rfl (by omega) (by omega))) ?_;clear F ac;intro ac F
        refine Y.pv F (X.assign rfl (F.ev 72 (Vi ((i : Int) + 1)))) ?_;clear F ac;intro ac F
        refine Y.nil ?_
        replace F : Fr ac 316 [(3, Vp w.heap.size), (4, Vp w3.heap.size), (5, Vp w4.heap.size), (7, Vp w12.heap.size), (8, Vi ((i : Int) + 1))] := F.sub _
        refine X.thenN ?_
        refine ⟨_, ?_, i + 1, v2, rfl, by omega, by rw [take_snoc (by have h9 := hft.len; omega)]; exact hFg, F.sub _⟩
        omega
       | true =>
        try rw [h110] at F
        have h110p : ((10 : Int) < rn109) := of_decide_eq_true h110
        refine Y.condT (F.ev 79 (.bool true)) ?_
        refine Y.seq ?_
        refine Y.lit (by kernel_rfl) ?_
        refine Y.pcall F (X.w0 rfl) rfl (X.enter (F := 46) rfl (X.kc (.func (.func 46) #[] #[]) rfl) rfl (enters_of Try.func46 (by kernel_rfl) rfl _)) (counts_any w14) ?_
        clear F ac
        rintro e w113 ⟨rfl, g⟩
        refine ⟨_, rfl, ?_⟩
        intro ac F
        replace G := G.trans g
        replace hC := hC.gr g
        replace hft := hft.gr g
        replace hfc := hfc.gr g
        replace hx := hx.gr g
        replace hy := hy.gr g
        replace hm := hm.gr g
        replace hcg := hcg.gr g
        replace pi109 := pi109.gr g
        clear g
        refine Y.pv F (X.assign rfl (F.ev 80 (.bool true))) ?_;clear F ac;intro ac F
        refine Y.nil ?_
        replace F : Fr ac 316 [(6, .bool true)] := F.sub _
        refine X.thenN ?_
        refine Y.ret ?_
        refine X.thenR ?_
        refine X.blockR ?_
        refine X.thenR ?_
        refine X.thenR ?_
        refine X.blockR ?_
        refine X.thenR ?_
        exact Y.ret0 (v := .bool true) F (Y.rs1 F rfl (by kernel_rfl)) ⟨rfl, G⟩
     | true =>
      try rw [h10] at F
      have h10p : ((20 : Int) < mn) := of_decide_eq_true h10
      refine Y.condT (F.ev 59 (.bool true)) ?_
      refine Y.seq ?_
      refine Y.lit (by kernel_rfl) ?_
      refine Y.pcall F (X.w0 rfl) rfl (X.enter (F := 46) rfl (X.kc (.func (.func 46) #[] #[]) rfl) rfl (enters_of Try.func46 (by kernel_rfl) rfl _)) (counts_any w5) ?_
      clear F ac
      rintro e w115 ⟨rfl, g⟩
      refine ⟨_, rfl, ?_⟩
      intro ac F
      replace G := G.trans g
      replace hC := hC.gr g
      replace hft := hft.gr g
      replace hfc := hfc.gr g
      replace hx := hx.gr g
      replace hy := hy.gr g
      replace hm := hm.gr g
      clear g
      refine Y.pv F (X.assign rfl (F.ev 60 (.bool true))) ?_;clear F ac;intro ac F
      refine Y.nil ?_
      replace F : Fr ac 316 [(6, .bool true)] := F.sub _
      refine X.thenN ?_
      refine Y.ret ?_
      refine X.thenR ?_
      exact Y.ret0 (v := .bool true) F (Y.rs1 F rfl (by kernel_rfl)) ⟨rfl, G⟩
    | true =>
     try rw [h9] at F
     have h9p : ((10 : Int) < m) := of_decide_eq_true h9
     refine Y.pskip F (X.w2 rfl (F.yl (j := 22) (d := 54) (b := true) rfl (by kernel_rfl)) rfl) rfl ?_;clear F ac;intro ac F
     refine Y.pskip F (X.w2 rfl (F.yl (j := 22) (d := 54) (b := true) rfl (by kernel_rfl)) rfl) rfl ?_;clear F ac;intro ac F
     refine Y.pskip F (X.w2 rfl (F.yl (j := 22) (d := 54) (b := true) rfl (by kernel_rfl)) rfl) rfl ?_;clear F ac;intro ac F
     refine Y.pskip F (X.w2 rfl (F.yl (j := 22) (d := 54) (b := true) rfl (by kernel_rfl)) rfl) rfl ?_;clear F ac;intro ac F
     refine Y.pv F (X.pickT rfl (F.ev 54 (.bool true)) (X.kc (.bool true) rfl)) ?_;clear F ac;intro ac F
     refine Y.nil ?_
     replace F : Fr ac 316 [(3, Vp w.heap.size), (4, Vp w3.heap.size), (5, Vp w4.heap.size), (59, .bool true)] := F.sub _
     refine X.thenN ?_
     refine Y.condT (F.ev 59 (.bool true)) ?_
     refine Y.seq ?_
     refine Y.lit (by kernel_rfl) ?_
     refine Y.pcall F (X.w0 rfl) rfl (X.enter (F := 46) rfl (X.kc (.func (.func 46) #[] #[]) rfl) rfl (enters_of Try.func46 (by kernel_rfl) rfl _)) (counts_any w5) ?_
     clear F ac
     rintro e w117 ⟨rfl, g⟩
     refine ⟨_, rfl, ?_⟩
     intro ac F
     replace G := G.trans g
     replace hC := hC.gr g
     replace hft := hft.gr g
     replace hfc := hfc.gr g
     replace hx := hx.gr g
     replace hy := hy.gr g
     replace hm := hm.gr g
     clear g
     refine Y.pv F (X.assign rfl (F.ev 60 (.bool true))) ?_;clear F ac;intro ac F
     refine Y.nil ?_
     replace F : Fr ac 316 [(6, .bool true)] := F.sub _
     refine X.thenN ?_
     refine Y.ret ?_
     refine X.thenR ?_
     exact Y.ret0 (v := .bool true) F (Y.rs1 F rfl (by kernel_rfl)) ⟨rfl, G⟩
   | true =>
    try rw [h8] at F
    have h8p : ((10 : Int) < n) := of_decide_eq_true h8
    refine Y.pskip F (X.w2 rfl (F.yl (j := 16) (d := 48) (b := true) rfl (by kernel_rfl)) rfl) rfl ?_;clear F ac;intro ac F
    refine Y.pskip F (X.w2 rfl (F.yl (j := 16) (d := 48) (b := true) rfl (by kernel_rfl)) rfl) rfl ?_;clear F ac;intro ac F
    refine Y.pskip F (X.w2 rfl (F.yl (j := 16) (d := 48) (b := true) rfl (by kernel_rfl)) rfl) rfl ?_;clear F ac;intro ac F
    refine Y.pskip F (X.w2 rfl (F.yl (j := 16) (d := 48) (b := true) rfl (by kernel_rfl)) rfl) rfl ?_;clear F ac;intro ac F
    refine Y.pv F (X.pickT rfl (F.ev 48 (.bool true)) (X.kc (.bool true) rfl)) ?_;clear F ac;intro ac F
    refine Y.pv F (X.move rfl (F.ev 53 (.bool true))) ?_;clear F ac;intro ac F
    refine Y.pskip F (X.w2 rfl (F.yl (j := 22) (d := 54) (b := true) rfl (by kernel_rfl)) rfl) rfl ?_;clear F ac;intro ac F
    refine Y.pskip F (X.w2 rfl (F.yl (j := 22) (d := 54) (b := true) rfl (by kernel_rfl)) rfl) rfl ?_;clear F ac;intro ac F
    refine Y.pskip F (X.w2 rfl (F.yl (j := 22) (d := 54) (b := true) rfl (by kernel_rfl)) rfl) rfl ?_;clear F ac;intro ac F
    refine Y.pskip F (X.w2 rfl (F.yl (j := 22) (d := 54) (b := true) rfl (by kernel_rfl)) rfl) rfl ?_;clear F ac;intro ac F
    refine Y.pv F (X.pickT rfl (F.ev 54 (.bool true)) (X.kc (.bool true) rfl)) ?_;clear F ac;intro ac F
    refine Y.nil ?_
    replace F : Fr ac 316 [(3, Vp w.heap.size), (4, Vp w3.heap.size), (5, Vp w4.heap.size), (59, .bool true)] := F.sub _
    refine X.thenN ?_
    refine Y.condT (F.ev 59 (.bool true)) ?_
    refine Y.seq ?_
    refine Y.lit (by kernel_rfl) ?_
    refine Y.pcall F (X.w0 rfl) rfl (X.enter (F := 46) rfl (X.kc (.func (.func 46) #[] #[]) rfl) rfl (enters_of Try.func46 (by kernel_rfl) rfl _)) (counts_any w5) ?_
    clear F ac
    rintro e w119 ⟨rfl, g⟩
    refine ⟨_, rfl, ?_⟩
    intro ac F
    replace G := G.trans g
    replace hC := hC.gr g
    replace hft := hft.gr g
    replace hfc := hfc.gr g
    replace hx := hx.gr g
    replace hy := hy.gr g
    replace hm := hm.gr g
    clear g
    refine Y.pv F (X.assign rfl (F.ev 60 (.bool true))) ?_;clear F ac;intro ac F
    refine Y.nil ?_
    replace F : Fr ac 316 [(6, .bool true)] := F.sub _
    refine X.thenN ?_
    refine Y.ret ?_
    refine X.thenR ?_
    exact Y.ret0 (v := .bool true) F (Y.rs1 F rfl (by kernel_rfl)) ⟨rfl, G⟩
  | true =>
   try rw [h7] at F
   have h7p : ((70 : Int) < cn) := of_decide_eq_true h7
   refine Y.pskip F (X.w2 rfl (F.yl (j := 10) (d := 42) (b := true) rfl (by kernel_rfl)) rfl) rfl ?_;clear F ac;intro ac F
   refine Y.pskip F (X.w2 rfl (F.yl (j := 10) (d := 42) (b := true) rfl (by kernel_rfl)) rfl) rfl ?_;clear F ac;intro ac F
   refine Y.pskip F (X.w2 rfl (F.yl (j := 10) (d := 42) (b := true) rfl (by kernel_rfl)) rfl) rfl ?_;clear F ac;intro ac F
   refine Y.pskip F (X.w2 rfl (F.yl (j := 10) (d := 42) (b := true) rfl (by kernel_rfl)) rfl) rfl ?_;clear F ac;intro ac F
   refine Y.pv F (X.pickT rfl (F.ev 42 (.bool true)) (X.kc (.bool true) rfl)) ?_;clear F ac;intro ac F
   refine Y.pv F (X.move rfl (F.ev 47 (.bool true))) ?_;clear F ac;intro ac F
   refine Y.pskip F (X.w2 rfl (F.yl (j := 16) (d := 48) (b := true) rfl (by kernel_rfl)) rfl) rfl ?_;clear F ac;intro ac F
   refine Y.pskip F (X.w2 rfl (F.yl (j := 16) (d := 48) (b := true) rfl (by kernel_rfl)) rfl) rfl ?_;clear F ac;intro ac F
   refine Y.pskip F (X.w2 rfl (F.yl (j := 16) (d := 48) (b := true) rfl (by kernel_rfl)) rfl) rfl ?_;clear F ac;intro ac F
   refine Y.pskip F (X.w2 rfl (F.yl (j := 16) (d := 48) (b := true) rfl (by kernel_rfl)) rfl) rfl ?_;clear F ac;intro ac F
   refine Y.pv F (X.pickT rfl (F.ev 48 (.bool true)) (X.kc (.bool true) rfl)) ?_;clear F ac;intro ac F
   refine Y.pv F (X.move rfl (F.ev 53 (.bool true))) ?_;clear F ac;intro ac F
   refine Y.pskip F (X.w2 rfl (F.yl (j := 22) (d := 54) (b := true) rfl (by kernel_rfl)) rfl) rfl ?_;clear F ac;intro ac F
   refine Y.pskip F (X.w2 rfl (F.yl (j := 22) (d := 54) (b := true) rfl (by kernel_rfl)) rfl) rfl ?_;clear F ac;intro ac F
   refine Y.pskip F (X.w2 rfl (F.yl (j := 22) (d := 54) (b := true) rfl (by kernel_rfl)) rfl) rfl ?_;clear F ac;intro ac F
   refine Y.pskip F (X.w2 rfl (F.yl (j := 22) (d := 54) (b := true) rfl (by kernel_rfl)) rfl) rfl ?_;clear F ac;intro ac F
   refine Y.pv F (X.pickT rfl (F.ev 54 (.bool true)) (X.kc (.bool true) rfl)) ?_;clear F ac;intro ac F
   refine Y.nil ?_
   replace F : Fr ac 316 [(3, Vp w.heap.size), (4, Vp w3.heap.size), (5, Vp w4.heap.size), (59, .bool true)] := F.sub _
   refine X.thenN ?_
   refine Y.condT (F.ev 59 (.bool true)) ?_
   refine Y.seq ?_
   refine Y.lit (by kernel_rfl) ?_
   refine Y.pcall F (X.w0 rfl) rfl (X.enter (F := 46) rfl (X.kc (.func (.func 46) #[] #[]) rfl) rfl (enters_of Try.func46 (by kernel_rfl) rfl _)) (counts_any w5) ?_
   clear F ac
   rintro e w121 ⟨rfl, g⟩
   refine ⟨_, rfl, ?_⟩
   intro ac F
   replace G := G.trans g
   replace hC := hC.gr g
   replace hft := hft.gr g
   replace hfc := hfc.gr g
   replace hx := hx.gr g
   replace hy := hy.gr g
   replace hm := hm.gr g
   clear g
   refine Y.pv F (X.assign rfl (F.ev 60 (.bool true))) ?_;clear F ac;intro ac F
   refine Y.nil ?_
   replace F : Fr ac 316 [(6, .bool true)] := F.sub _
   refine X.thenN ?_
   refine Y.ret ?_
   refine X.thenR ?_
   exact Y.ret0 (v := .bool true) F (Y.rs1 F rfl (by kernel_rfl)) ⟨rfl, G⟩
 | true =>
  try rw [h6] at F
  have h6p : ((4 : Int) < tn) := of_decide_eq_true h6
  refine Y.pskip F (X.w2 rfl (F.yl (j := 4) (d := 36) (b := true) rfl (by kernel_rfl)) rfl) rfl ?_;clear F ac;intro ac F
  refine Y.pskip F (X.w2 rfl (F.yl (j := 4) (d := 36) (b := true) rfl (by kernel_rfl)) rfl) rfl ?_;clear F ac;intro ac F
  refine Y.pskip F (X.w2 rfl (F.yl (j := 4) (d := 36) (b := true) rfl (by kernel_rfl)) rfl) rfl ?_;clear F ac;intro ac F
  refine Y.pskip F (X.w2 rfl (F.yl (j := 4) (d := 36) (b := true) rfl (by kernel_rfl)) rfl) rfl ?_;clear F ac;intro ac F
  refine Y.pv F (X.pickT rfl (F.ev 36 (.bool true)) (X.kc (.bool true) rfl)) ?_;clear F ac;intro ac F
  refine Y.pv F (X.move rfl (F.ev 41 (.bool true))) ?_;clear F ac;intro ac F
  refine Y.pskip F (X.w2 rfl (F.yl (j := 10) (d := 42) (b := true) rfl (by kernel_rfl)) rfl) rfl ?_;clear F ac;intro ac F
  refine Y.pskip F (X.w2 rfl (F.yl (j := 10) (d := 42) (b := true) rfl (by kernel_rfl)) rfl) rfl ?_;clear F ac;intro ac F
  refine Y.pskip F (X.w2 rfl (F.yl (j := 10) (d := 42) (b := true) rfl (by kernel_rfl)) rfl) rfl ?_;clear F ac;intro ac F
  refine Y.pskip F (X.w2 rfl (F.yl (j := 10) (d := 42) (b := true) rfl (by kernel_rfl)) rfl) rfl ?_;clear F ac;intro ac F
  refine Y.pv F (X.pickT rfl (F.ev 42 (.bool true)) (X.kc (.bool true) rfl)) ?_;clear F ac;intro ac F
  refine Y.pv F (X.move rfl (F.ev 47 (.bool true))) ?_;clear F ac;intro ac F
  refine Y.pskip F (X.w2 rfl (F.yl (j := 16) (d := 48) (b := true) rfl (by kernel_rfl)) rfl) rfl ?_;clear F ac;intro ac F
  refine Y.pskip F (X.w2 rfl (F.yl (j := 16) (d := 48) (b := true) rfl (by kernel_rfl)) rfl) rfl ?_;clear F ac;intro ac F
  refine Y.pskip F (X.w2 rfl (F.yl (j := 16) (d := 48) (b := true) rfl (by kernel_rfl)) rfl) rfl ?_;clear F ac;intro ac F
  refine Y.pskip F (X.w2 rfl (F.yl (j := 16) (d := 48) (b := true) rfl (by kernel_rfl)) rfl) rfl ?_;clear F ac;intro ac F
  refine Y.pv F (X.pickT rfl (F.ev 48 (.bool true)) (X.kc (.bool true) rfl)) ?_;clear F ac;intro ac F
  refine Y.pv F (X.move rfl (F.ev 53 (.bool true))) ?_;clear F ac;intro ac F
  refine Y.pskip F (X.w2 rfl (F.yl (j := 22) (d := 54) (b := true) rfl (by kernel_rfl)) rfl) rfl ?_;clear F ac;intro ac F
  refine Y.pskip F (X.w2 rfl (F.yl (j := 22) (d := 54) (b := true) rfl (by kernel_rfl)) rfl) rfl ?_;clear F ac;intro ac F
  refine Y.pskip F (X.w2 rfl (F.yl (j := 22) (d := 54) (b := true) rfl (by kernel_rfl)) rfl) rfl ?_;clear F ac;intro ac F
  refine Y.pskip F (X.w2 rfl (F.yl (j := 22) (d := 54) (b := true) rfl (by kernel_rfl)) rfl) rfl ?_;clear F ac;intro ac F
  refine Y.pv F (X.pickT rfl (F.ev 54 (.bool true)) (X.kc (.bool true) rfl)) ?_;clear F ac;intro ac F
  refine Y.nil ?_
  replace F : Fr ac 316 [(3, Vp w.heap.size), (4, Vp w3.heap.size), (5, Vp w4.heap.size), (59, .bool true)] := F.sub _
  refine X.thenN ?_
  refine Y.condT (F.ev 59 (.bool true)) ?_
  refine Y.seq ?_
  refine Y.lit (by kernel_rfl) ?_
  refine Y.pcall F (X.w0 rfl) rfl (X.enter (F := 46) rfl (X.kc (.func (.func 46) #[] #[]) rfl) rfl (enters_of Try.func46 (by kernel_rfl) rfl _)) (counts_any w5) ?_
  clear F ac
  rintro e w123 ⟨rfl, g⟩
  refine ⟨_, rfl, ?_⟩
  intro ac F
  replace G := G.trans g
  replace hC := hC.gr g
  replace hft := hft.gr g
  replace hfc := hfc.gr g
  replace hx := hx.gr g
  replace hy := hy.gr g
  replace hm := hm.gr g
  clear g
  refine Y.pv F (X.assign rfl (F.ev 60 (.bool true))) ?_;clear F ac;intro ac F
  refine Y.nil ?_
  replace F : Fr ac 316 [(6, .bool true)] := F.sub _
  refine X.thenN ?_
  refine Y.ret ?_
  refine X.thenR ?_
  exact Y.ret0 (v := .bool true) F (Y.rs1 F rfl (by kernel_rfl)) ⟨rfl, G⟩
end Go.Proofs.Ytaidcocjcidggaa
