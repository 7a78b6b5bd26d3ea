/- Contract: UpdateSafe returns true. -/
import Derived.Test.YtlilojpnhmfnaaaBd6
import Derived.Test.YtlilojpnhmfnaaaBd7
import Derived.Test.YtlilojpnhmfnaaaChkD
namespace Go.Proofs.Ytlilojpnhmfnaaa
open Go.RowKit

theorem intE_01 {f : Fl} {xs : List Int} {L : List (List Int)} {bu : Int} {ms : List Int} (h : (cpR f xs L bu).2 = 0) (h2 : ¬ (intE f xs L bu ms : Int) = 0) : ((intE f xs L bu ms : Int) == 1) = true := by
  unfold intE at h2 ⊢
  rw [if_pos h] at h2 ⊢
  split at h2 <;> simp_all

set_option maxRecDepth 100000 in
set_option maxHeartbeats 4000000 in
theorem safe_any (ta ca a b fa pa ma : Option Addr) (tn tc cn cc n c m d fn fc pn pc mn mc : Nat) (f : Fl) (xs ys ms : List Int) (bu dn : Int) (w : World) (hf : FlAt w ta tn ca cn f) (hx : Ints w a n xs) (hy : Ints w b m ys) (hm : Ints w ma mn ms) :
    Calls Try.prog 10 #[.agg #[.slice ta tn tc, .slice ca cn cc], .agg #[.slice a n c, .slice b m d], .agg #[.slice fa fn fc, .slice pa pn pc, .int .i64 bu, .int .i64 dn, .slice ma mn mc]] w fun e w' => e = .returned (.bool true) ∧ Gr w w' := by
  have G := Gr.refl w
  refine X.calls 248 Try.func10 rfl rfl ?_
  intro ac F0
  have F : Fr ac 248 [(0, .agg #[.slice ta tn tc, .slice ca cn cc]), (1, .agg #[.slice a n c, .slice b m d]), (2, .agg #[.slice fa fn fc, .slice pa pn pc, .int .i64 bu, .int .i64 dn, .slice ma mn mc])] := F0.sub _ (by kernel_rfl)
  clear F0
  refine wp_seq ?_
  refine wp_region_lit ?_
  refine X.pval F (X.w0 rfl) rfl (X.box rfl (F.ev 0 (.agg #[.slice ta tn tc, .slice ca cn cc]) (by kernel_rfl)) X.bx) ?_
  clear F ac
  intro ac F
  have g := Gr.alloc w (.cells #[.slice ta tn tc, .slice ca cn cc] 25)
  have hb := heap_alloc_new w (.cells #[.slice ta tn tc, .slice ca cn cc] 25)
  have hbl : w.heap.size < (w.alloc (.cells #[.slice ta tn tc, .slice ca cn cc] 25)).heap.size := by simp
  have hC2 : RCells (w.alloc (.cells #[.slice ta tn tc, .slice ca cn cc] 25)) [(⟨w.heap.size, 0, none⟩, .slice ta tn tc), (⟨w.heap.size, 1, none⟩, .slice ca cn cc)] := (RCells.nil w).box (b := w.heap.size) #[.slice ta tn tc, .slice ca cn cc] 25 rfl
  generalize w.alloc (.cells #[.slice ta tn tc, .slice ca cn cc] 25) = w3 at *
  replace G := G.trans g
  have hC := hC2
  clear hC2
  replace hf := hf.gr g
  replace hx := hx.gr g
  replace hy := hy.gr g
  replace hm := hm.gr g
  clear g hb hbl
  refine X.pval F (X.w0 rfl) rfl (X.box rfl (F.ev 1 (.agg #[.slice a n c, .slice b m d]) (by kernel_rfl)) X.bx) ?_
  clear F ac
  intro ac F
  have g := Gr.alloc w3 (.cells #[.slice a n c, .slice b m d] 28)
  have hb := heap_alloc_new w3 (.cells #[.slice a n c, .slice b m d] 28)
  have hbl : w3.heap.size < (w3.alloc (.cells #[.slice a n c, .slice b m d] 28)).heap.size := by simp
  have hC2 : RCells (w3.alloc (.cells #[.slice a n c, .slice b m d] 28)) [(⟨w.heap.size, 0, none⟩, .slice ta tn tc), (⟨w.heap.size, 1, none⟩, .slice ca cn cc), (⟨w3.heap.size, 0, none⟩, .slice a n c), (⟨w3.heap.size, 1, none⟩, .slice b m d)] := hC.box (b := w3.heap.size) #[.slice a n c, .slice b m d] 28 rfl
  generalize w3.alloc (.cells #[.slice a n c, .slice b m d] 28) = w4 at *
  replace G := G.trans g
  replace hC := hC2
  clear hC2
  replace hf := hf.gr g
  replace hx := hx.gr g
  replace hy := hy.gr g
  replace hm := hm.gr g
  clear g hb hbl
  refine X.pval F (X.w0 rfl) rfl (X.box rfl (F.ev 2 (.agg #[.slice fa fn fc, .slice pa pn pc, .int .i64 bu, .int .i64 dn, .slice ma mn mc]) (by kernel_rfl)) X.bx) ?_
  clear F ac
  intro ac F
  have g := Gr.alloc w4 (.cells #[.slice fa fn fc, .slice pa pn pc, .int .i64 bu, .int .i64 dn, .slice ma mn mc] 41)
  have hb := heap_alloc_new w4 (.cells #[.slice fa fn fc, .slice pa pn pc, .int .i64 bu, .int .i64 dn, .slice ma mn mc] 41)
  have hbl : w4.heap.size < (w4.alloc (.cells #[.slice fa fn fc, .slice pa pn pc, .int .i64 bu, .int .i64 dn, .slice ma mn mc] 41)).heap.size := by simp
  have hC2 : RCells (w4.alloc (.cells #[.slice fa fn fc, .slice pa pn pc, .int .i64 bu, .int .i64 dn, .slice ma mn mc] 41)) [(⟨w.heap.size, 0, none⟩, .slice ta tn tc), (⟨w.heap.size, 1, none⟩, .slice ca cn cc), (⟨w3.heap.size, 0, none⟩, .slice a n c), (⟨w3.heap.size, 1, none⟩, .slice b m d), (⟨w4.heap.size, 0, none⟩, .slice fa fn fc), (⟨w4.heap.size, 1, none⟩, .slice pa pn pc), (⟨w4.heap.size, 2, none⟩, .int .i64 bu), (⟨w4.heap.size, 3, none⟩, .int .i64 dn), (⟨w4.heap.size, 4, none⟩, .slice ma mn mc)] := hC.box (b := w4.heap.size) #[.slice fa fn fc, .slice pa pn pc, .int .i64 bu, .int .i64 dn, .slice ma mn mc] 41 rfl
  generalize w4.alloc (.cells #[.slice fa fn fc, .slice pa pn pc, .int .i64 bu, .int .i64 dn, .slice ma mn mc] 41) = w5 at *
  replace G := G.trans g
  replace hC := hC2
  clear hC2
  replace hf := hf.gr g
  replace hx := hx.gr g
  replace hy := hy.gr g
  replace hm := hm.gr g
  clear g hb hbl
  refine X.pval F (X.w0 rfl) rfl (X.assign rfl (X.kc (.bool false) rfl)) ?_
  clear F ac
  intro ac F
  refine wpList_nil ?_
  replace F : Fr ac 248 [(0, .agg #[.slice ta tn tc, .slice ca cn cc]), (1, .agg #[.slice a n c, .slice b m d]), (2, .agg #[.slice fa fn fc, .slice pa pn pc, .int .i64 bu, .int .i64 dn, .slice ma mn mc]), (3, .pointer (some ⟨w.heap.size, 0, none⟩)), (4, .pointer (some ⟨w3.heap.size, 0, none⟩)), (5, .pointer (some ⟨w4.heap.size, 0, none⟩)), (6, .bool false)] := F.sub _ (by kernel_rfl)
  refine X.thenN ?_
  refine wp_seq ?_
  refine wp_seq ?_
  refine wp_region_lit ?_
  refine X.pval F (X.w0 rfl) rfl (X.load rfl (F.ev 3 (.pointer (some ⟨w.heap.size, 0, none⟩)) (by kernel_rfl)) (X.ldN (Try.agg25 _) (Try.siz25 _) (X.c2 (hC.at 0 rfl) (hC.at 1 rfl)))) ?_
  clear F ac
  intro ac F
  refine X.pcall F (X.w0 rfl) rfl (X.enter (F := 15) rfl (X.kc (.func (.func 15) #[] #[]) rfl) (X.a1 (F.ev 25 (.agg #[.slice ta tn tc, .slice ca cn cc]) (by kernel_rfl))) (enters_of Try.func15 (by kernel_rfl) rfl _)) (large_any ta ca tn tc cn cc f w5 hf) ?_
  clear F ac
  rintro e w6 ⟨rfl, g⟩
  refine ⟨_, rfl, ?_⟩
  intro ac F
  replace G := G.trans g
  replace hC := hC.gr g
  replace hf := hf.gr g
  replace hx := hx.gr g
  replace hy := hy.gr g
  replace hm := hm.gr g
  clear g
  refine X.pval F (X.w0 rfl) rfl (X.move rfl (F.ev 26 (.bool (largeB f.times)) (by kernel_rfl))) ?_
  clear F ac
  intro ac F
  cases h7 : largeB f.times with
  | false =>
    try rw [h7] at F
    refine X.pval F (X.w1 rfl (F.yl (j := 2) (d := 27) (b := false) rfl (by kernel_rfl))) rfl (X.field rfl (F.ev 5 (.pointer (some ⟨w4.heap.size, 0, none⟩)) (by kernel_rfl)) (X.fld Try.underlying41 rfl (Try.siz26 _) rfl rfl)) ?_
    clear F ac
    intro ac F
    refine X.pval F (X.w1 rfl (F.yl (j := 2) (d := 27) (b := false) rfl (by kernel_rfl))) rfl (X.load rfl (F.ev 28 (.pointer (some ⟨w4.heap.size, 4, none⟩)) (by kernel_rfl)) (X.ld1 (Try.agg26 _) (hC.at 8 rfl))) ?_
    clear F ac
    intro ac F
    refine X.pval F (X.w1 rfl (F.yl (j := 2) (d := 27) (b := false) rfl (by kernel_rfl))) rfl (X.len1 Try.underlying26 rfl (F.ev 29 (.slice ma mn mc) (by kernel_rfl))) ?_
    clear F ac
    intro ac F
    refine X.pval F (X.w1 rfl (F.yl (j := 2) (d := 27) (b := false) rfl (by kernel_rfl))) rfl (X.binop rfl (F.ev 30 (.int .i64 mn) (by kernel_rfl)) (X.kc (.int .i64 64) rfl) (X.gtrI Try.underlying3 rfl)) ?_
    clear F ac
    intro ac F
    refine X.pval F (X.w0 rfl) rfl (X.pickF rfl (F.ev 27 (.bool false) (by kernel_rfl)) (F.ev 31 (.bool (decide ((64 : Int) < mn))) (by kernel_rfl))) ?_
    clear F ac
    intro ac F
    refine wpList_nil ?_
    replace F : Fr ac 248 [(0, .agg #[.slice ta tn tc, .slice ca cn cc]), (1, .agg #[.slice a n c, .slice b m d]), (2, .agg #[.slice fa fn fc, .slice pa pn pc, .int .i64 bu, .int .i64 dn, .slice ma mn mc]), (3, .pointer (some ⟨w.heap.size, 0, none⟩)), (4, .pointer (some ⟨w3.heap.size, 0, none⟩)), (5, .pointer (some ⟨w4.heap.size, 0, none⟩)), (6, .bool false), (32, .bool (decide ((64 : Int) < mn)))] := F.sub _ (by kernel_rfl)
    refine X.thenN ?_
    cases h8 : decide ((64 : Int) < mn) with
    | false =>
      try rw [h8] at F
      have h8p : ¬ ((64 : Int) < mn) := of_decide_eq_false h8
      refine wp_cond_false (F.ev 32 (.bool false) (by kernel_rfl)) ?_
      refine wp_skip ?_
      refine X.thenN ?_
      refine wp_seq ?_
      refine wp_region_lit ?_
      refine X.pval F (X.w0 rfl) rfl (X.load rfl (F.ev 3 (.pointer (some ⟨w.heap.size, 0, none⟩)) (by kernel_rfl)) (X.ldN (Try.agg25 _) (Try.siz25 _) (X.c2 (hC.at 0 rfl) (hC.at 1 rfl)))) ?_
      clear F ac
      intro ac F
      refine X.pval F (X.w0 rfl) rfl (X.field rfl (F.ev 4 (.pointer (some ⟨w3.heap.size, 0, none⟩)) (by kernel_rfl)) (X.fld Try.underlying28 rfl (Try.siz26 _) rfl rfl)) ?_
      clear F ac
      intro ac F
      refine X.pval F (X.w0 rfl) rfl (X.load rfl (F.ev 36 (.pointer (some ⟨w3.heap.size, 0, none⟩)) (by kernel_rfl)) (X.ld1 (Try.agg26 _) (hC.at 2 rfl))) ?_
      clear F ac
      intro ac F
      refine X.pval F (X.w0 rfl) rfl (X.field rfl (F.ev 4 (.pointer (some ⟨w3.heap.size, 0, none⟩)) (by kernel_rfl)) (X.fld Try.underlying28 rfl (Try.siz26 _) rfl rfl)) ?_
      clear F ac
      intro ac F
      refine X.pval F (X.w0 rfl) rfl (X.load rfl (F.ev 38 (.pointer (some ⟨w3.heap.size, 1, none⟩)) (by kernel_rfl)) (X.ld1 (Try.agg26 _) (hC.at 3 rfl))) ?_
      clear F ac
      intro ac F
      refine X.pval F (X.w0 rfl) rfl (X.field rfl (F.ev 5 (.pointer (some ⟨w4.heap.size, 0, none⟩)) (by kernel_rfl)) (X.fld Try.underlying41 rfl (Try.siz3 _) rfl rfl)) ?_
      clear F ac
      intro ac F
      refine X.pval F (X.w0 rfl) rfl (X.load rfl (F.ev 40 (.pointer (some ⟨w4.heap.size, 2, none⟩)) (by kernel_rfl)) (X.ld1 (Try.agg3 _) (hC.at 6 rfl))) ?_
      clear F ac
      intro ac F
      refine X.pcall F (X.w0 rfl) rfl (X.enter (F := 17) rfl (X.kc (.func (.func 17) #[] #[]) rfl) (X.a4 (F.ev 35 (.agg #[.slice ta tn tc, .slice ca cn cc]) (by kernel_rfl)) (F.ev 37 (.slice a n c) (by kernel_rfl)) (F.ev 39 (.slice b m d) (by kernel_rfl)) (F.ev 41 (.int .i64 bu) (by kernel_rfl))) (enters_of Try.func17 (by kernel_rfl) rfl _)) (plan_any ta ca a b tn tc cn cc n c m d f xs ys bu w6 hf hx hy) ?_
      clear F ac
      rintro e w10 ⟨ra9, rn9, rc9, rfl, hR9, g, hcp9⟩
      refine ⟨_, rfl, ?_⟩
      intro ac F
      replace G := G.trans g
      replace hC := hC.gr g
      replace hf := hf.gr g
      replace hx := hx.gr g
      replace hy := hy.gr g
      replace hm := hm.gr g
      clear g
      refine X.pval F (X.w0 rfl) rfl (X.move rfl (F.ev 42 (.tuple #[.slice ra9 rn9 rc9, .int .i64 (planE f xs ys bu)]) (by kernel_rfl))) ?_
      clear F ac
      intro ac F
      refine X.pval F (X.w0 rfl) rfl (X.extract rfl (F.ev 34 (.tuple #[.slice ra9 rn9 rc9, .int .i64 (planE f xs ys bu)]) (by kernel_rfl)) rfl) ?_
      clear F ac
      intro ac F
      refine X.pval F (X.w0 rfl) rfl (X.extract rfl (F.ev 34 (.tuple #[.slice ra9 rn9 rc9, .int .i64 (planE f xs ys bu)]) (by kernel_rfl)) rfl) ?_
      clear F ac
      intro ac F
      refine X.pval F (X.w0 rfl) rfl (X.assign rfl (F.ev 43 (.slice ra9 rn9 rc9) (by kernel_rfl))) ?_
      clear F ac
      intro ac F
      refine X.pval F (X.w0 rfl) rfl (X.assign rfl (F.ev 44 (.int .i64 (planE f xs ys bu)) (by kernel_rfl))) ?_
      clear F ac
      intro ac F
      refine wpList_nil ?_
      replace F : Fr ac 248 [(0, .agg #[.slice ta tn tc, .slice ca cn cc]), (1, .agg #[.slice a n c, .slice b m d]), (2, .agg #[.slice fa fn fc, .slice pa pn pc, .int .i64 bu, .int .i64 dn, .slice ma mn mc]), (3, .pointer (some ⟨w.heap.size, 0, none⟩)), (4, .pointer (some ⟨w3.heap.size, 0, none⟩)), (5, .pointer (some ⟨w4.heap.size, 0, none⟩)), (6, .bool false), (7, .slice ra9 rn9 rc9), (8, .int .i64 (planE f xs ys bu)), (32, .bool false)] := F.sub _ (by kernel_rfl)
      refine X.thenN ?_
      refine wp_seq ?_
      refine wp_seq ?_
      refine wp_region_lit ?_
      refine X.pval F (X.w0 rfl) rfl (X.move rfl (F.ev 8 (.int .i64 (planE f xs ys bu)) (by kernel_rfl))) ?_
      clear F ac
      intro ac F
      refine X.pval F (X.w0 rfl) rfl (X.binop rfl (F.ev 45 (.int .i64 (planE f xs ys bu)) (by kernel_rfl)) (X.kc (.int .i64 0) rfl) (X.neqI Try.underlying31 rfl)) ?_
      clear F ac
      intro ac F
      refine X.pval F (X.w0 rfl) rfl (X.move rfl (F.ev 46 (.bool ((planE f xs ys bu : Int) != 0)) (by kernel_rfl))) ?_
      clear F ac
      intro ac F
      cases h11 : ((planE f xs ys bu : Int) != 0) with
      | false =>
        try rw [h11] at F
        have h11p : (planE f xs ys bu : Int) = 0 := by simpa using h11
        obtain ⟨k1, k2, k3, _, _⟩ := planV_holds h11p
        have HPL := Lib.hid k1
        have HCP := Lib.hid k3
        clear k1 k2 k3
        generalize planV f xs ys bu = Q at *
        have HCHK : Hid (chkB f = true) := Lib.hid (cpR_chk HCP.out).1
        have HWX : Hid (worksB f xs = true) := Lib.hid (cpR_chk HCP.out).2.1
        have HBU : Hid (0 ≤ bu) := Lib.hid (cpR_chk HCP.out).2.2
        have HLN : Hid (Q.length = rn9) := Lib.hid hR9.len
        have hn6 : n ≤ 6 := by have := HPL.out.ok.n6; have := HPL.out.a.len; have := hx.len; omega
        have h64 : rn9 ≤ 64 := by have := HPL.out.n64; have := HLN.out; omega
        have HNX : Hid (n = f.times.length) := Lib.hid (by rw [← HPL.out.a.len, hx.len])
        refine X.pval F (X.w1 rfl (F.yl (j := 2) (d := 47) (b := false) rfl (by kernel_rfl))) rfl (X.move rfl (F.ev 7 (.slice ra9 rn9 rc9) (by kernel_rfl))) ?_
        clear F ac
        intro ac F
        refine X.pval F (X.w1 rfl (F.yl (j := 2) (d := 47) (b := false) rfl (by kernel_rfl))) rfl (X.len1 Try.underlying22 rfl (F.ev 48 (.slice ra9 rn9 rc9) (by kernel_rfl))) ?_
        clear F ac
        intro ac F
        refine X.pval F (X.w1 rfl (F.yl (j := 2) (d := 47) (b := false) rfl (by kernel_rfl))) rfl (X.binop rfl (F.ev 49 (.int .i64 rn9) (by kernel_rfl)) (X.kc (.int .i64 64) rfl) (X.gtrI Try.underlying3 rfl)) ?_
        clear F ac
        intro ac F
        refine X.pval F (X.w0 rfl) rfl (X.pickF rfl (F.ev 47 (.bool false) (by kernel_rfl)) (F.ev 50 (.bool (decide ((64 : Int) < rn9))) (by kernel_rfl))) ?_
        clear F ac
        intro ac F
        refine wpList_nil ?_
        replace F : Fr ac 248 [(0, .agg #[.slice ta tn tc, .slice ca cn cc]), (1, .agg #[.slice a n c, .slice b m d]), (2, .agg #[.slice fa fn fc, .slice pa pn pc, .int .i64 bu, .int .i64 dn, .slice ma mn mc]), (3, .pointer (some ⟨w.heap.size, 0, none⟩)), (4, .pointer (some ⟨w3.heap.size, 0, none⟩)), (5, .pointer (some ⟨w4.heap.size, 0, none⟩)), (6, .bool false), (7, .slice ra9 rn9 rc9), (8, .int .i64 (planE f xs ys bu)), (32, .bool false), (51, .bool (decide ((64 : Int) < rn9)))] := F.sub _ (by kernel_rfl)
        refine X.thenN ?_
        have h13 : decide ((64 : Int) < rn9) = false := decide_eq_false (by have := HPL.out.n64; have := HLN.out; omega)
        have h13p : ¬ ((64 : Int) < rn9) := of_decide_eq_false h13
        try rw [h13] at F
        refine wp_cond_false (F.ev 51 (.bool false) (by kernel_rfl)) ?_
        refine wp_skip ?_
        refine X.thenN ?_
        refine wp_seq ?_
        refine wp_region_lit ?_
        refine X.pval F (X.w0 rfl) rfl (X.load rfl (F.ev 3 (.pointer (some ⟨w.heap.size, 0, none⟩)) (by kernel_rfl)) (X.ldN (Try.agg25 _) (Try.siz25 _) (X.c2 (hC.at 0 rfl) (hC.at 1 rfl)))) ?_
        clear F ac
        intro ac F
        refine X.pval F (X.w0 rfl) rfl (X.field rfl (F.ev 4 (.pointer (some ⟨w3.heap.size, 0, none⟩)) (by kernel_rfl)) (X.fld Try.underlying28 rfl (Try.siz26 _) rfl rfl)) ?_
        clear F ac
        intro ac F
        refine X.pval F (X.w0 rfl) rfl (X.load rfl (F.ev 55 (.pointer (some ⟨w3.heap.size, 0, none⟩)) (by kernel_rfl)) (X.ld1 (Try.agg26 _) (hC.at 2 rfl))) ?_
        clear F ac
        intro ac F
        refine X.pval F (X.w0 rfl) rfl (X.move rfl (F.ev 7 (.slice ra9 rn9 rc9) (by kernel_rfl))) ?_
        clear F ac
        intro ac F
        refine X.pval F (X.w0 rfl) rfl (X.field rfl (F.ev 5 (.pointer (some ⟨w4.heap.size, 0, none⟩)) (by kernel_rfl)) (X.fld Try.underlying41 rfl (Try.siz3 _) rfl rfl)) ?_
        clear F ac
        intro ac F
        refine X.pval F (X.w0 rfl) rfl (X.load rfl (F.ev 58 (.pointer (some ⟨w4.heap.size, 2, none⟩)) (by kernel_rfl)) (X.ld1 (Try.agg3 _) (hC.at 6 rfl))) ?_
        clear F ac
        intro ac F
        refine X.pval F (X.w0 rfl) rfl (X.field rfl (F.ev 5 (.pointer (some ⟨w4.heap.size, 0, none⟩)) (by kernel_rfl)) (X.fld Try.underlying41 rfl (Try.siz26 _) rfl rfl)) ?_
        clear F ac
        intro ac F
        refine X.pval F (X.w0 rfl) rfl (X.load rfl (F.ev 60 (.pointer (some ⟨w4.heap.size, 4, none⟩)) (by kernel_rfl)) (X.ld1 (Try.agg26 _) (hC.at 8 rfl))) ?_
        clear F ac
        intro ac F
        refine X.pcall F (X.w0 rfl) rfl (X.enter (F := 30) rfl (X.kc (.func (.func 30) #[] #[]) rfl) (X.a5 (F.ev 54 (.agg #[.slice ta tn tc, .slice ca cn cc]) (by kernel_rfl)) (F.ev 56 (.slice a n c) (by kernel_rfl)) (F.ev 57 (.slice ra9 rn9 rc9) (by kernel_rfl)) (F.ev 59 (.int .i64 bu) (by kernel_rfl)) (F.ev 61 (.slice ma mn mc) (by kernel_rfl))) (enters_of Try.func30 (by kernel_rfl) rfl _)) (interrupt_any ta ca a ra9 ma tn tc cn cc n c rn9 rc9 mn mc f xs ms Q bu w10 hf hx hR9 hcp9 hm) ?_
        clear F ac
        rintro e w15 ⟨ra14, rn14, rc14, rfl, hR14, g, hcp14⟩
        refine ⟨_, rfl, ?_⟩
        intro ac F
        replace G := G.trans g
        replace hC := hC.gr g
        replace hf := hf.gr g
        replace hx := hx.gr g
        replace hy := hy.gr g
        replace hm := hm.gr g
        replace hR9 := hR9.gr g
        clear g
        refine X.pval F (X.w0 rfl) rfl (X.move rfl (F.ev 62 (.tuple #[.slice ra14 rn14 rc14, .int .i64 (intE f xs Q bu ms)]) (by kernel_rfl))) ?_
        clear F ac
        intro ac F
        refine X.pval F (X.w0 rfl) rfl (X.extract rfl (F.ev 53 (.tuple #[.slice ra14 rn14 rc14, .int .i64 (intE f xs Q bu ms)]) (by kernel_rfl)) rfl) ?_
        clear F ac
        intro ac F
        refine X.pval F (X.w0 rfl) rfl (X.extract rfl (F.ev 53 (.tuple #[.slice ra14 rn14 rc14, .int .i64 (intE f xs Q bu ms)]) (by kernel_rfl)) rfl) ?_
        clear F ac
        intro ac F
        refine X.pval F (X.w0 rfl) rfl (X.assign rfl (F.ev 63 (.slice ra14 rn14 rc14) (by kernel_rfl))) ?_
        clear F ac
        intro ac F
        refine X.pval F (X.w0 rfl) rfl (X.assign rfl (F.ev 64 (.int .i64 (intE f xs Q bu ms)) (by kernel_rfl))) ?_
        clear F ac
        intro ac F
        refine wpList_nil ?_
        replace F : Fr ac 248 [(0, .agg #[.slice ta tn tc, .slice ca cn cc]), (1, .agg #[.slice a n c, .slice b m d]), (2, .agg #[.slice fa fn fc, .slice pa pn pc, .int .i64 bu, .int .i64 dn, .slice ma mn mc]), (3, .pointer (some ⟨w.heap.size, 0, none⟩)), (4, .pointer (some ⟨w3.heap.size, 0, none⟩)), (5, .pointer (some ⟨w4.heap.size, 0, none⟩)), (6, .bool false), (7, .slice ra9 rn9 rc9), (8, .int .i64 (intE f xs Q bu ms)), (9, .slice ra14 rn14 rc14), (32, .bool false), (51, .bool false)] := F.sub _ (by kernel_rfl)
        refine X.thenN ?_
        refine wp_seq ?_
        refine wp_seq ?_
        refine wp_region_lit ?_
        refine X.pval F (X.w0 rfl) rfl (X.move rfl (F.ev 8 (.int .i64 (intE f xs Q bu ms)) (by kernel_rfl))) ?_
        clear F ac
        intro ac F
        refine X.pval F (X.w0 rfl) rfl (X.binop rfl (F.ev 65 (.int .i64 (intE f xs Q bu ms)) (by kernel_rfl)) (X.kc (.int .i64 0) rfl) (X.neqI Try.underlying31 rfl)) ?_
        clear F ac
        intro ac F
        refine wpList_nil ?_
        replace F : Fr ac 248 [(0, .agg #[.slice ta tn tc, .slice ca cn cc]), (1, .agg #[.slice a n c, .slice b m d]), (2, .agg #[.slice fa fn fc, .slice pa pn pc, .int .i64 bu, .int .i64 dn, .slice ma mn mc]), (3, .pointer (some ⟨w.heap.size, 0, none⟩)), (4, .pointer (some ⟨w3.heap.size, 0, none⟩)), (5, .pointer (some ⟨w4.heap.size, 0, none⟩)), (6, .bool false), (7, .slice ra9 rn9 rc9), (8, .int .i64 (intE f xs Q bu ms)), (9, .slice ra14 rn14 rc14), (32, .bool false), (51, .bool false), (66, .bool ((intE f xs Q bu ms : Int) != 0))] := F.sub _ (by kernel_rfl)
        refine X.thenN ?_
        cases h16 : ((intE f xs Q bu ms : Int) != 0) with
        | false =>
          try rw [h16] at F
          have h16p : (intE f xs Q bu ms : Int) = 0 := by simpa using h16
          have HIV : Hid (intV f xs Q bu ms = intr f.times xs Q ms) := Lib.hid (by unfold intV; rw [if_pos h16p])
          rw [HIV.out] at hR14
          have HMN : Hid (rn14 = mn) := Lib.hid (by rw [← hR14.len, intr_all, List.length_map, posL_len, hm.len])
          have hl9 := hR14.lt
          have HML : Hid (ms.length = mn) := Lib.hid hm.len
          have hxL := hx
          refine wp_cond_false (F.ev 66 (.bool false) (by kernel_rfl)) ?_
          refine wp_skip ?_
          refine X.thenN ?_
          refine wp_seq ?_
          refine wp_region_lit ?_
          refine X.pval F (X.w0 rfl) rfl (X.field rfl (F.ev 4 (.pointer (some ⟨w3.heap.size, 0, none⟩)) (by kernel_rfl)) (X.fld Try.underlying28 rfl (Try.siz26 _) rfl rfl)) ?_
          clear F ac
          intro ac F
          refine X.pval F (X.w0 rfl) rfl (X.load rfl (F.ev 72 (.pointer (some ⟨w3.heap.size, 0, none⟩)) (by kernel_rfl)) (X.ld1 (Try.agg26 _) (hC.at 2 rfl))) ?_
          clear F ac
          intro ac F
          refine X.pval F (X.w0 rfl) rfl (X.assign rfl (F.ev 73 (.slice a n c) (by kernel_rfl))) ?_
          clear F ac
          intro ac F
          refine wpList_nil ?_
          replace F : Fr ac 248 [(0, .agg #[.slice ta tn tc, .slice ca cn cc]), (1, .agg #[.slice a n c, .slice b m d]), (2, .agg #[.slice fa fn fc, .slice pa pn pc, .int .i64 bu, .int .i64 dn, .slice ma mn mc]), (3, .pointer (some ⟨w.heap.size, 0, none⟩)), (4, .pointer (some ⟨w3.heap.size, 0, none⟩)), (5, .pointer (some ⟨w4.heap.size, 0, none⟩)), (6, .bool false), (7, .slice ra9 rn9 rc9), (8, .int .i64 (intE f xs Q bu ms)), (9, .slice ra14 rn14 rc14), (10, .slice a n c), (32, .bool false), (51, .bool false), (66, .bool false)] := F.sub _ (by kernel_rfl)
          refine X.thenN ?_
          refine wp_seq ?_
          refine wp_region_lit ?_
          refine X.pval F (X.w0 rfl) rfl (X.assign rfl (X.kc (.int .i64 0) rfl)) ?_
          clear F ac
          intro ac F
          refine wpList_nil ?_
          replace F : Fr ac 248 [(0, .agg #[.slice ta tn tc, .slice ca cn cc]), (1, .agg #[.slice a n c, .slice b m d]), (2, .agg #[.slice fa fn fc, .slice pa pn pc, .int .i64 bu, .int .i64 dn, .slice ma mn mc]), (3, .pointer (some ⟨w.heap.size, 0, none⟩)), (4, .pointer (some ⟨w3.heap.size, 0, none⟩)), (5, .pointer (some ⟨w4.heap.size, 0, none⟩)), (6, .bool false), (7, .slice ra9 rn9 rc9), (8, .int .i64 (intE f xs Q bu ms)), (9, .slice ra14 rn14 rc14), (10, .slice a n c), (11, .int .i64 0), (32, .bool false), (51, .bool false), (66, .bool false)] := F.sub _ (by kernel_rfl)
          refine X.thenN ?_
          refine wp_seq ?_
          refine wp_seq ?_
          refine wp_region_lit ?_
          refine X.pval F (X.w0 rfl) rfl (X.assign rfl (X.kc (.int .i64 0) rfl)) ?_
          clear F ac
          intro ac F
          refine wpList_nil ?_
          replace F : Fr ac 248 [(0, .agg #[.slice ta tn tc, .slice ca cn cc]), (1, .agg #[.slice a n c, .slice b m d]), (2, .agg #[.slice fa fn fc, .slice pa pn pc, .int .i64 bu, .int .i64 dn, .slice ma mn mc]), (3, .pointer (some ⟨w.heap.size, 0, none⟩)), (4, .pointer (some ⟨w3.heap.size, 0, none⟩)), (5, .pointer (some ⟨w4.heap.size, 0, none⟩)), (6, .bool false), (7, .slice ra9 rn9 rc9), (8, .int .i64 (intE f xs Q bu ms)), (9, .slice ra14 rn14 rc14), (10, .slice a n c), (11, .int .i64 0), (12, .int .i64 0), (32, .bool false), (51, .bool false), (66, .bool false)] := F.sub _ (by kernel_rfl)
          refine X.thenN ?_
          refine wp_block ?_
          have hfB := hf
          have hxB := hx
          have hyB := hy
          have hmB := hm
          have hR9B := hR9
          have hR14B := hR14
          have hCB := hC
          have GB := G
          refine wp_loop_ghost (fun me_ ac wr => ∃ (k A : Nat) (la : Option Addr) (lc : Nat), me_ = rn14 - k ∧ Gr w15 wr ∧ k ≤ rn14 ∧ A ≤ rn9 ∧ Ints wr la n (pAt xs Q A) ∧ Hid (posL f.times xs Q A (ms.drop k) = (posL f.times xs Q 0 ms).drop k) ∧ Fr ac 248 [(0, .agg #[.slice ta tn tc, .slice ca cn cc]), (1, .agg #[.slice a n c, .slice b m d]), (2, .agg #[.slice fa fn fc, .slice pa pn pc, .int .i64 bu, .int .i64 dn, .slice ma mn mc]), (3, .pointer (some ⟨w.heap.size, 0, none⟩)), (4, .pointer (some ⟨w3.heap.size, 0, none⟩)), (5, .pointer (some ⟨w4.heap.size, 0, none⟩)), (7, .slice ra9 rn9 rc9), (8, .int .i64 (intE f xs Q bu ms)), (9, .slice ra14 rn14 rc14), (10, .slice la n lc), (11, .int .i64 A), (12, .int .i64 k), (32, .bool false), (51, .bool false), (66, .bool false)]) _ ⟨0, 0, a, c, rfl, Gr.refl _, Nat.zero_le _, Nat.zero_le _, hx, Lib.hid rfl, F.sub _ (by kernel_rfl)⟩ ?_
          clear F
          intro me_ ac w17 hI
          obtain ⟨k, A, la, lc, rfl, gr, hk, hA, hla, HP, F⟩ := hI
          replace G := GB.trans gr
          replace hC := hCB.gr gr
          replace hf := hfB.gr gr
          replace hx := hxB.gr gr
          replace hy := hyB.gr gr
          replace hm := hmB.gr gr
          replace hR9 := hR9B.gr gr
          replace hR14 := hR14B.gr gr
          have GB_ := gr
          clear gr
          obtain ⟨C, hC1⟩ : ∃ C, C = pAt xs Q A := ⟨_, rfl⟩
          rw [← hC1] at hla
          have HC := Lib.hid hC1
          clear hC1
          refine wp_seq ?_
          refine wp_seq ?_
          refine wp_region_lit ?_
          refine X.pval F (X.w0 rfl) rfl (X.move rfl (F.ev 12 (.int .i64 k) (by kernel_rfl))) ?_
          clear F ac
          intro ac F
          refine X.pval F (X.w0 rfl) rfl (X.move rfl (F.ev 9 (.slice ra14 rn14 rc14) (by kernel_rfl))) ?_
          clear F ac
          intro ac F
          refine X.pval F (X.w0 rfl) rfl (X.len1 Try.underlying22 rfl (F.ev 75 (.slice ra14 rn14 rc14) (by kernel_rfl))) ?_
          clear F ac
          intro ac F
          refine X.pval F (X.w0 rfl) rfl (X.binop rfl (F.ev 74 (.int .i64 k) (by kernel_rfl)) (F.ev 76 (.int .i64 rn14) (by kernel_rfl)) (X.lssI Try.underlying3 rfl)) ?_
          clear F ac
          intro ac F
          refine wpList_nil ?_
          replace F : Fr ac 248 [(0, .agg #[.slice ta tn tc, .slice ca cn cc]), (1, .agg #[.slice a n c, .slice b m d]), (2, .agg #[.slice fa fn fc, .slice pa pn pc, .int .i64 bu, .int .i64 dn, .slice ma mn mc]), (3, .pointer (some ⟨w.heap.size, 0, none⟩)), (4, .pointer (some ⟨w3.heap.size, 0, none⟩)), (5, .pointer (some ⟨w4.heap.size, 0, none⟩)), (7, .slice ra9 rn9 rc9), (8, .int .i64 (intE f xs Q bu ms)), (9, .slice ra14 rn14 rc14), (10, .slice la n lc), (11, .int .i64 A), (12, .int .i64 k), (32, .bool false), (51, .bool false), (66, .bool false), (77, .bool (decide ((k : Int) < rn14)))] := F.sub _ (by kernel_rfl)
          refine X.thenN ?_
          cases h18 : decide ((k : Int) < rn14) with
          | false =>
            try rw [h18] at F
            have h18p : ¬ ((k : Int) < rn14) := of_decide_eq_false h18
            obtain rfl : rn14 = k := by omega
            refine wp_cond_false (F.ev 77 (.bool false) (by kernel_rfl)) ?_
            refine wp_exit ?_
            refine X.thenX ?_
            refine X.thenX ?_
            refine X.blockX ?_
            refine X.thenN ?_
            refine wp_seq ?_
            refine wp_region_lit ?_
            refine X.pval F (X.w0 rfl) rfl (X.assign rfl (X.kc (.slice none 0 0) rfl)) ?_
            clear F ac
            intro ac F
            refine wpList_nil ?_
            replace F : Fr ac 248 [(0, .agg #[.slice ta tn tc, .slice ca cn cc]), (1, .agg #[.slice a n c, .slice b m d]), (2, .agg #[.slice fa fn fc, .slice pa pn pc, .int .i64 bu, .int .i64 dn, .slice ma mn mc]), (3, .pointer (some ⟨w.heap.size, 0, none⟩)), (4, .pointer (some ⟨w3.heap.size, 0, none⟩)), (5, .pointer (some ⟨w4.heap.size, 0, none⟩)), (7, .slice ra9 rn9 rc9), (8, .int .i64 (intE f xs Q bu ms)), (9, .slice ra14 rn14 rc14), (10, .slice la n lc), (11, .int .i64 A), (12, .int .i64 rn14), (17, .slice none 0 0), (32, .bool false), (51, .bool false), (66, .bool false), (77, .bool false)] := F.sub _ (by kernel_rfl)
            refine X.thenN ?_
            refine wp_seq ?_
            refine wp_seq ?_
            refine wp_region_lit ?_
            refine X.pval F (X.w0 rfl) rfl (X.assign rfl (X.kc (.int .i64 0) rfl)) ?_
            clear F ac
            intro ac F
            refine wpList_nil ?_
            replace F : Fr ac 248 [(0, .agg #[.slice ta tn tc, .slice ca cn cc]), (1, .agg #[.slice a n c, .slice b m d]), (2, .agg #[.slice fa fn fc, .slice pa pn pc, .int .i64 bu, .int .i64 dn, .slice ma mn mc]), (3, .pointer (some ⟨w.heap.size, 0, none⟩)), (4, .pointer (some ⟨w3.heap.size, 0, none⟩)), (5, .pointer (some ⟨w4.heap.size, 0, none⟩)), (7, .slice ra9 rn9 rc9), (8, .int .i64 (intE f xs Q bu ms)), (9, .slice ra14 rn14 rc14), (10, .slice la n lc), (11, .int .i64 A), (12, .int .i64 rn14), (17, .slice none 0 0), (18, .int .i64 0), (32, .bool false), (51, .bool false), (66, .bool false), (77, .bool false)] := F.sub _ (by kernel_rfl)
            refine X.thenN ?_
            refine wp_block ?_
            have hfBB := hf
            have hxBB := hx
            have hyBB := hy
            have hmBB := hm
            have hR9BB := hR9
            have hR14BB := hR14
            have hlaBB := hla
            have hCBB := hC
            have GBB := G
            refine wp_loop_ghost (fun me_ ac wr => ∃ (k : Nat) (vv : Value), me_ = rn9 - k ∧ Gr w17 wr ∧ k ≤ rn9 ∧ OwnI wr w17.heap.size vv (List.replicate k bu) ∧ Fr ac 248 [(0, .agg #[.slice ta tn tc, .slice ca cn cc]), (1, .agg #[.slice a n c, .slice b m d]), (2, .agg #[.slice fa fn fc, .slice pa pn pc, .int .i64 bu, .int .i64 dn, .slice ma mn mc]), (3, .pointer (some ⟨w.heap.size, 0, none⟩)), (4, .pointer (some ⟨w3.heap.size, 0, none⟩)), (5, .pointer (some ⟨w4.heap.size, 0, none⟩)), (7, .slice ra9 rn9 rc9), (8, .int .i64 (intE f xs Q bu ms)), (9, .slice ra14 rn14 rc14), (10, .slice la n lc), (11, .int .i64 A), (12, .int .i64 rn14), (17, vv), (18, .int .i64 k), (32, .bool false), (51, .bool false), (66, .bool false), (77, .bool false)]) _ ⟨0, _, rfl, Gr.refl _, Nat.zero_le _, OwnI.nil _ _, F.sub _ (by kernel_rfl)⟩ ?_
            clear F
            intro me_ ac w19 hI
            obtain ⟨k, vv, rfl, gr, hk, hO, F⟩ := hI
            replace G := GBB.trans gr
            replace hC := hCBB.gr gr
            replace hf := hfBB.gr gr
            replace hx := hxBB.gr gr
            replace hy := hyBB.gr gr
            replace hm := hmBB.gr gr
            replace hR9 := hR9BB.gr gr
            replace hR14 := hR14BB.gr gr
            replace hla := hlaBB.gr gr
            replace GB_ := GB_.trans gr
            have GBB_ := gr
            clear gr
            refine wp_seq ?_
            refine wp_seq ?_
            refine wp_region_lit ?_
            refine X.pval F (X.w0 rfl) rfl (X.move rfl (F.ev 18 (.int .i64 k) (by kernel_rfl))) ?_
            clear F ac
            intro ac F
            refine X.pval F (X.w0 rfl) rfl (X.move rfl (F.ev 7 (.slice ra9 rn9 rc9) (by kernel_rfl))) ?_
            clear F ac
            intro ac F
            refine X.pval F (X.w0 rfl) rfl (X.len1 Try.underlying22 rfl (F.ev 147 (.slice ra9 rn9 rc9) (by kernel_rfl))) ?_
            clear F ac
            intro ac F
            refine X.pval F (X.w0 rfl) rfl (X.binop rfl (F.ev 146 (.int .i64 k) (by kernel_rfl)) (F.ev 148 (.int .i64 rn9) (by kernel_rfl)) (X.lssI Try.underlying3 rfl)) ?_
            clear F ac
            intro ac F
            refine wpList_nil ?_
            replace F : Fr ac 248 [(0, .agg #[.slice ta tn tc, .slice ca cn cc]), (1, .agg #[.slice a n c, .slice b m d]), (2, .agg #[.slice fa fn fc, .slice pa pn pc, .int .i64 bu, .int .i64 dn, .slice ma mn mc]), (3, .pointer (some ⟨w.heap.size, 0, none⟩)), (4, .pointer (some ⟨w3.heap.size, 0, none⟩)), (5, .pointer (some ⟨w4.heap.size, 0, none⟩)), (7, .slice ra9 rn9 rc9), (8, .int .i64 (intE f xs Q bu ms)), (9, .slice ra14 rn14 rc14), (10, .slice la n lc), (11, .int .i64 A), (12, .int .i64 rn14), (17, vv), (18, .int .i64 k), (32, .bool false), (51, .bool false), (66, .bool false), (77, .bool false), (149, .bool (decide ((k : Int) < rn9)))] := F.sub _ (by kernel_rfl)
            refine X.thenN ?_
            cases h20 : decide ((k : Int) < rn9) with
            | false =>
              try rw [h20] at F
              have h20p : ¬ ((k : Int) < rn9) := of_decide_eq_false h20
              obtain rfl : rn9 = k := by omega
              obtain ⟨va, vc, rfl, hfu, _⟩ := hO.ints (by rw [List.length_replicate]; omega)
              rw [List.length_replicate] at hfu F
              refine wp_cond_false (F.ev 149 (.bool false) (by kernel_rfl)) ?_
              refine wp_exit ?_
              refine X.thenX ?_
              refine X.thenX ?_
              refine X.blockX ?_
              refine X.thenN ?_
              refine wp_seq ?_
              refine wp_region_lit ?_
              refine X.pval F (X.w0 rfl) rfl (X.load rfl (F.ev 3 (.pointer (some ⟨w.heap.size, 0, none⟩)) (by kernel_rfl)) (X.ldN (Try.agg25 _) (Try.siz25 _) (X.c2 (hC.at 0 rfl) (hC.at 1 rfl)))) ?_
              clear F ac
              intro ac F
              refine X.pval F (X.w0 rfl) rfl (X.field rfl (F.ev 4 (.pointer (some ⟨w3.heap.size, 0, none⟩)) (by kernel_rfl)) (X.fld Try.underlying28 rfl (Try.siz26 _) rfl rfl)) ?_
              clear F ac
              intro ac F
              refine X.pval F (X.w0 rfl) rfl (X.load rfl (F.ev 159 (.pointer (some ⟨w3.heap.size, 0, none⟩)) (by kernel_rfl)) (X.ld1 (Try.agg26 _) (hC.at 2 rfl))) ?_
              clear F ac
              intro ac F
              refine X.pval F (X.w0 rfl) rfl (X.move rfl (F.ev 7 (.slice ra9 rn9 rc9) (by kernel_rfl))) ?_
              clear F ac
              intro ac F
              refine X.pval F (X.w0 rfl) rfl (X.field rfl (F.ev 5 (.pointer (some ⟨w4.heap.size, 0, none⟩)) (by kernel_rfl)) (X.fld Try.underlying41 rfl (Try.siz3 _) rfl rfl)) ?_
              clear F ac
              intro ac F
              refine X.pval F (X.w0 rfl) rfl (X.load rfl (F.ev 162 (.pointer (some ⟨w4.heap.size, 2, none⟩)) (by kernel_rfl)) (X.ld1 (Try.agg3 _) (hC.at 6 rfl))) ?_
              clear F ac
              intro ac F
              refine X.pval F (X.w0 rfl) rfl (X.move rfl (F.ev 17 (.slice va rn9 vc) (by kernel_rfl))) ?_
              clear F ac
              intro ac F
              refine X.pcall F (X.w0 rfl) rfl (X.enter (F := 30) rfl (X.kc (.func (.func 30) #[] #[]) rfl) (X.a5 (F.ev 158 (.agg #[.slice ta tn tc, .slice ca cn cc]) (by kernel_rfl)) (F.ev 160 (.slice a n c) (by kernel_rfl)) (F.ev 161 (.slice ra9 rn9 rc9) (by kernel_rfl)) (F.ev 163 (.int .i64 bu) (by kernel_rfl)) (F.ev 164 (.slice va rn9 vc) (by kernel_rfl))) (enters_of Try.func30 (by kernel_rfl) rfl _)) ((by have hq := interrupt_any ta ca a ra9 va tn tc cn cc n c rn9 rc9 rn9 vc f xs (List.replicate rn9 bu) Q bu w19 hf hx hR9 hcp9 hfu; rw [(int_full2 HCP.out HBU.out HLN.out).1, (int_full2 HCP.out HBU.out HLN.out).2] at hq; exact hq)) ?_
              clear F ac
              rintro e w22 ⟨ra21, rn21, rc21, rfl, hR21, g, hcp21⟩
              refine ⟨_, rfl, ?_⟩
              intro ac F
              replace G := G.trans g
              replace hC := hC.gr g
              replace GB_ := GB_.trans g
              replace GBB_ := GBB_.trans g
              replace hf := hf.gr g
              replace hx := hx.gr g
              replace hy := hy.gr g
              replace hm := hm.gr g
              replace hR9 := hR9.gr g
              replace hR14 := hR14.gr g
              replace hla := hla.gr g
              replace hO := hO.gr g
              replace hfu := hfu.gr g
              clear g
              refine X.pval F (X.w0 rfl) rfl (X.move rfl (F.ev 165 (.tuple #[.slice ra21 rn21 rc21, .int .i64 0]) (by kernel_rfl))) ?_
              clear F ac
              intro ac F
              refine X.pval F (X.w0 rfl) rfl (X.extract rfl (F.ev 157 (.tuple #[.slice ra21 rn21 rc21, .int .i64 0]) (by kernel_rfl)) rfl) ?_
              clear F ac
              intro ac F
              refine X.pval F (X.w0 rfl) rfl (X.extract rfl (F.ev 157 (.tuple #[.slice ra21 rn21 rc21, .int .i64 0]) (by kernel_rfl)) rfl) ?_
              clear F ac
              intro ac F
              refine X.pval F (X.w0 rfl) rfl (X.assign rfl (F.ev 166 (.slice ra21 rn21 rc21) (by kernel_rfl))) ?_
              clear F ac
              intro ac F
              refine X.pval F (X.w0 rfl) rfl (X.assign rfl (F.ev 167 (.int .i64 0) (by kernel_rfl))) ?_
              clear F ac
              intro ac F
              refine wpList_nil ?_
              replace F : Fr ac 248 [(0, .agg #[.slice ta tn tc, .slice ca cn cc]), (1, .agg #[.slice a n c, .slice b m d]), (2, .agg #[.slice fa fn fc, .slice pa pn pc, .int .i64 bu, .int .i64 dn, .slice ma mn mc]), (3, .pointer (some ⟨w.heap.size, 0, none⟩)), (4, .pointer (some ⟨w3.heap.size, 0, none⟩)), (5, .pointer (some ⟨w4.heap.size, 0, none⟩)), (7, .slice ra9 rn9 rc9), (8, .int .i64 0), (9, .slice ra14 rn14 rc14), (10, .slice la n lc), (11, .int .i64 A), (12, .int .i64 rn14), (17, .slice va rn9 vc), (18, .int .i64 rn9), (19, .slice ra21 rn21 rc21), (32, .bool false), (51, .bool false), (66, .bool false), (77, .bool false), (149, .bool false)] := F.sub _ (by kernel_rfl)
              refine X.thenN ?_
              refine wp_seq ?_
              refine wp_seq ?_
              refine wp_region_lit ?_
              refine X.pval F (X.w0 rfl) rfl (X.move rfl (F.ev 8 (.int .i64 0) (by kernel_rfl))) ?_
              clear F ac
              intro ac F
              refine X.pval F (X.w0 rfl) rfl (X.binop rfl (F.ev 168 (.int .i64 0) (by kernel_rfl)) (X.kc (.int .i64 0) rfl) (X.neqI Try.underlying31 (show ((0 : Int) != 0) = false by simp))) ?_
              clear F ac
              intro ac F
              refine X.pval F (X.w0 rfl) rfl (X.move rfl (F.ev 169 (.bool false) (by kernel_rfl))) ?_
              clear F ac
              intro ac F
              refine X.pval F (X.w1 rfl (F.yl (j := 2) (d := 170) (b := false) rfl (by kernel_rfl))) rfl (X.move rfl (F.ev 19 (.slice ra21 rn21 rc21) (by kernel_rfl))) ?_
              clear F ac
              intro ac F
              refine X.pval F (X.w1 rfl (F.yl (j := 2) (d := 170) (b := false) rfl (by kernel_rfl))) rfl (X.len1 Try.underlying22 rfl (F.ev 171 (.slice ra21 rn21 rc21) (by kernel_rfl))) ?_
              clear F ac
              intro ac F
              refine X.pval F (X.w1 rfl (F.yl (j := 2) (d := 170) (b := false) rfl (by kernel_rfl))) rfl (X.move rfl (F.ev 7 (.slice ra9 rn9 rc9) (by kernel_rfl))) ?_
              clear F ac
              intro ac F
              refine X.pval F (X.w1 rfl (F.yl (j := 2) (d := 170) (b := false) rfl (by kernel_rfl))) rfl (X.len1 Try.underlying22 rfl (F.ev 173 (.slice ra9 rn9 rc9) (by kernel_rfl))) ?_
              clear F ac
              intro ac F
              refine X.pval F (X.w1 rfl (F.yl (j := 2) (d := 170) (b := false) rfl (by kernel_rfl))) rfl (X.binop rfl (F.ev 172 (.int .i64 rn21) (by kernel_rfl)) (F.ev 174 (.int .i64 rn9) (by kernel_rfl)) (X.neqI Try.underlying3 rfl)) ?_
              clear F ac
              intro ac F
              refine X.pval F (X.w0 rfl) rfl (X.pickF rfl (F.ev 170 (.bool false) (by kernel_rfl)) (F.ev 175 (.bool ((rn21 : Int) != rn9)) (by kernel_rfl))) ?_
              clear F ac
              intro ac F
              refine X.pval F (X.w0 rfl) rfl (X.move rfl (F.ev 176 (.bool ((rn21 : Int) != rn9)) (by kernel_rfl))) ?_
              clear F ac
              intro ac F
              have h24 : ((rn21 : Int) != rn9) = false := by have h1 := HLN.out; have h2 := hR21.len; simp; omega
              try rw [h24] at F
              refine X.pval F (X.w1 rfl (F.yl (j := 9) (d := 177) (b := false) rfl (by kernel_rfl))) rfl (X.move rfl (F.ev 19 (.slice ra21 rn21 rc21) (by kernel_rfl))) ?_
              clear F ac
              intro ac F
              refine X.pval F (X.w1 rfl (F.yl (j := 9) (d := 177) (b := false) rfl (by kernel_rfl))) rfl (X.move rfl (F.ev 7 (.slice ra9 rn9 rc9) (by kernel_rfl))) ?_
              clear F ac
              intro ac F
              refine X.pcall F (X.w1 rfl (F.yl (j := 9) (d := 177) (b := false) rfl (by kernel_rfl))) rfl (X.enter (F := 19) rfl (X.kc (.func (.func 19) #[] #[]) rfl) (X.a2 (F.ev 178 (.slice ra21 rn21 rc21) (by kernel_rfl)) (F.ev 179 (.slice ra9 rn9 rc9) (by kernel_rfl))) (enters_of Try.func19 (by kernel_rfl) rfl _)) (by have hq := sameStates_any ra21 ra9 rn21 rc21 rn9 rc9 Q Q w22 hR21 hR9; rw [decide_eq_true rfl] at hq; exact hq) ?_
              clear F ac
              rintro e w25 ⟨rfl, g⟩
              refine ⟨_, rfl, ?_⟩
              intro ac F
              replace G := G.trans g
              replace hC := hC.gr g
              replace GB_ := GB_.trans g
              replace GBB_ := GBB_.trans g
              replace hf := hf.gr g
              replace hx := hx.gr g
              replace hy := hy.gr g
              replace hm := hm.gr g
              replace hR9 := hR9.gr g
              replace hR14 := hR14.gr g
              replace hla := hla.gr g
              replace hO := hO.gr g
              replace hfu := hfu.gr g
              replace hR21 := hR21.gr g
              clear g
              refine X.pval F (X.w1 rfl (F.yl (j := 9) (d := 177) (b := false) rfl (by kernel_rfl))) rfl (X.notB rfl (F.ev 180 (.bool true) (by kernel_rfl)) rfl) ?_
              clear F ac
              intro ac F
              refine X.pval F (X.w0 rfl) rfl (X.pickF rfl (F.ev 177 (.bool false) (by kernel_rfl)) (F.ev 181 (.bool false) (by kernel_rfl))) ?_
              clear F ac
              intro ac F
              refine wpList_nil ?_
              replace F : Fr ac 248 [(0, .agg #[.slice ta tn tc, .slice ca cn cc]), (1, .agg #[.slice a n c, .slice b m d]), (2, .agg #[.slice fa fn fc, .slice pa pn pc, .int .i64 bu, .int .i64 dn, .slice ma mn mc]), (3, .pointer (some ⟨w.heap.size, 0, none⟩)), (4, .pointer (some ⟨w3.heap.size, 0, none⟩)), (5, .pointer (some ⟨w4.heap.size, 0, none⟩)), (7, .slice ra9 rn9 rc9), (8, .int .i64 0), (9, .slice ra14 rn14 rc14), (10, .slice la n lc), (11, .int .i64 A), (12, .int .i64 rn14), (17, .slice va rn9 vc), (18, .int .i64 rn9), (19, .slice ra21 rn21 rc21), (32, .bool false), (51, .bool false), (66, .bool false), (77, .bool false), (149, .bool false), (182, .bool false)] := F.sub _ (by kernel_rfl)
              refine X.thenN ?_
              refine wp_cond_false (F.ev 182 (.bool false) (by kernel_rfl)) ?_
              refine wp_skip ?_
              refine X.thenN ?_
              refine wp_seq ?_
              refine wp_region_lit ?_
              refine X.pval F (X.w0 rfl) rfl (X.load rfl (F.ev 3 (.pointer (some ⟨w.heap.size, 0, none⟩)) (by kernel_rfl)) (X.ldN (Try.agg25 _) (Try.siz25 _) (X.c2 (hC.at 0 rfl) (hC.at 1 rfl)))) ?_
              clear F ac
              intro ac F
              refine X.pval F (X.w0 rfl) rfl (X.field rfl (F.ev 4 (.pointer (some ⟨w3.heap.size, 0, none⟩)) (by kernel_rfl)) (X.fld Try.underlying28 rfl (Try.siz26 _) rfl rfl)) ?_
              clear F ac
              intro ac F
              refine X.pval F (X.w0 rfl) rfl (X.load rfl (F.ev 185 (.pointer (some ⟨w3.heap.size, 0, none⟩)) (by kernel_rfl)) (X.ld1 (Try.agg26 _) (hC.at 2 rfl))) ?_
              clear F ac
              intro ac F
              refine X.pval F (X.w0 rfl) rfl (X.move rfl (F.ev 7 (.slice ra9 rn9 rc9) (by kernel_rfl))) ?_
              clear F ac
              intro ac F
              refine X.pval F (X.w0 rfl) rfl (X.field rfl (F.ev 5 (.pointer (some ⟨w4.heap.size, 0, none⟩)) (by kernel_rfl)) (X.fld Try.underlying41 rfl (Try.siz3 _) rfl rfl)) ?_
              clear F ac
              intro ac F
              refine X.pval F (X.w0 rfl) rfl (X.load rfl (F.ev 188 (.pointer (some ⟨w4.heap.size, 2, none⟩)) (by kernel_rfl)) (X.ld1 (Try.agg3 _) (hC.at 6 rfl))) ?_
              clear F ac
              intro ac F
              refine X.pval F (X.w0 rfl) rfl (X.move rfl (F.ev 11 (.int .i64 A) (by kernel_rfl))) ?_
              clear F ac
              intro ac F
              refine X.pcall F (X.w0 rfl) rfl (X.enter (F := 32) rfl (X.kc (.func (.func 32) #[] #[]) rfl) (X.a5 (F.ev 184 (.agg #[.slice ta tn tc, .slice ca cn cc]) (by kernel_rfl)) (F.ev 186 (.slice a n c) (by kernel_rfl)) (F.ev 187 (.slice ra9 rn9 rc9) (by kernel_rfl)) (F.ev 189 (.int .i64 bu) (by kernel_rfl)) (F.ev 190 (.int .i64 A) (by kernel_rfl))) (enters_of Try.func32 (by kernel_rfl) rfl _)) ((by have hq := back_any ta ca a ra9 tn tc cn cc n c rn9 rc9 f xs Q bu A w25 hf hx hR9 hcp9; rw [(back_ok HCP.out (by have := HLN.out; omega)).1, (back_ok HCP.out (by have := HLN.out; omega)).2] at hq; exact hq)) ?_
              clear F ac
              rintro e w27 ⟨ra26, rn26, rc26, rfl, hR26, g, hcp26⟩
              refine ⟨_, rfl, ?_⟩
              intro ac F
              replace G := G.trans g
              replace hC := hC.gr g
              replace GB_ := GB_.trans g
              replace GBB_ := GBB_.trans g
              replace hf := hf.gr g
              replace hx := hx.gr g
              replace hy := hy.gr g
              replace hm := hm.gr g
              replace hR9 := hR9.gr g
              replace hR14 := hR14.gr g
              replace hla := hla.gr g
              replace hO := hO.gr g
              replace hfu := hfu.gr g
              replace hR21 := hR21.gr g
              clear g
              refine X.pval F (X.w0 rfl) rfl (X.move rfl (F.ev 191 (.tuple #[.slice ra26 rn26 rc26, .int .i64 0]) (by kernel_rfl))) ?_
              clear F ac
              intro ac F
              refine X.pval F (X.w0 rfl) rfl (X.extract rfl (F.ev 183 (.tuple #[.slice ra26 rn26 rc26, .int .i64 0]) (by kernel_rfl)) rfl) ?_
              clear F ac
              intro ac F
              refine X.pval F (X.w0 rfl) rfl (X.extract rfl (F.ev 183 (.tuple #[.slice ra26 rn26 rc26, .int .i64 0]) (by kernel_rfl)) rfl) ?_
              clear F ac
              intro ac F
              refine X.pval F (X.w0 rfl) rfl (X.assign rfl (F.ev 192 (.slice ra26 rn26 rc26) (by kernel_rfl))) ?_
              clear F ac
              intro ac F
              refine X.pval F (X.w0 rfl) rfl (X.assign rfl (F.ev 193 (.int .i64 0) (by kernel_rfl))) ?_
              clear F ac
              intro ac F
              refine wpList_nil ?_
              replace F : Fr ac 248 [(0, .agg #[.slice ta tn tc, .slice ca cn cc]), (1, .agg #[.slice a n c, .slice b m d]), (2, .agg #[.slice fa fn fc, .slice pa pn pc, .int .i64 bu, .int .i64 dn, .slice ma mn mc]), (3, .pointer (some ⟨w.heap.size, 0, none⟩)), (4, .pointer (some ⟨w3.heap.size, 0, none⟩)), (5, .pointer (some ⟨w4.heap.size, 0, none⟩)), (7, .slice ra9 rn9 rc9), (8, .int .i64 0), (9, .slice ra14 rn14 rc14), (10, .slice la n lc), (11, .int .i64 A), (12, .int .i64 rn14), (17, .slice va rn9 vc), (18, .int .i64 rn9), (19, .slice ra21 rn21 rc21), (20, .slice ra26 rn26 rc26), (32, .bool false), (51, .bool false), (66, .bool false), (77, .bool false), (149, .bool false), (182, .bool false)] := F.sub _ (by kernel_rfl)
              refine X.thenN ?_
              refine wp_seq ?_
              refine wp_seq ?_
              have h29 : ((rn26 : Int) != A) = false := by have h2 := hR26.len; rw [bk_len] at h2; simp; omega
              try rw [h29] at F
              cases h30 : decide ((0 : Int) < A) with
              | false =>
                try rw [h30] at F
                have h30p : ¬ ((0 : Int) < A) := of_decide_eq_false h30
                refine region_x F [some (.int .i64 0), some (.bool false), some (.bool false), some (.slice ra26 rn26 rc26), some (.int .i64 rn26), some (.int .i64 A), some (.bool false), some (.bool false), some (.bool false), some (.int .i64 A), some (.bool false), some (.bool false), none, none, none, none, none, none, none, none, none, some (.bool false), some (.bool false)] (X.RG w27) rfl ⟨by kernel_rfl, of_decide_eq_true (by kernel_rfl), by kernel_rfl, by kernel_rfl, by kernel_rfl⟩ (fun _ => ⟨Gr.refl _, Gr.drew _⟩) ⟨?_, ?_, ?_, ?_, ?_, ?_, ?_, ?_, ?_, ?_, ?_, ?_, ?_, ?_, ?_, ?_, ?_, ?_, ?_, ?_, ?_, ?_, ?_, trivial⟩ ?_
                · intro ac done u W Sx g
                  replace g : Gr w27 W := g
                  exact X.val (X.w0 rfl) rfl (X.move rfl (Sx.ev 8 (.int .i64 0) (by kernel_rfl))) g
                · intro ac done u W Sx g
                  replace g : Gr w27 W := g
                  exact X.val (X.w0 rfl) rfl (X.binop rfl (Sx.ev 194 (.int .i64 0) (by kernel_rfl)) (X.kc (.int .i64 0) rfl) (X.neqI Try.underlying31 (show ((0 : Int) != 0) = false by simp))) g
                · intro ac done u W Sx g
                  replace g : Gr w27 W := g
                  exact X.val (X.w0 rfl) rfl (X.move rfl (Sx.ev 195 (.bool false) (by kernel_rfl))) g
                · intro ac done u W Sx g
                  replace g : Gr w27 W := g
                  exact X.val (X.w1 rfl (Sx.yl 2 196 false (by kernel_rfl) rfl rfl)) rfl (X.move rfl (Sx.ev 20 (.slice ra26 rn26 rc26) (by kernel_rfl))) g
                · intro ac done u W Sx g
                  replace g : Gr w27 W := g
                  exact X.val (X.w1 rfl (Sx.yl 2 196 false (by kernel_rfl) rfl rfl)) rfl (X.len1 Try.underlying22 rfl (Sx.ev 197 (.slice ra26 rn26 rc26) (by kernel_rfl))) g
                · intro ac done u W Sx g
                  replace g : Gr w27 W := g
                  exact X.val (X.w1 rfl (Sx.yl 2 196 false (by kernel_rfl) rfl rfl)) rfl (X.move rfl (Sx.ev 11 (.int .i64 A) (by kernel_rfl))) g
                · intro ac done u W Sx g
                  replace g : Gr w27 W := g
                  exact X.val (X.w1 rfl (Sx.yl 2 196 false (by kernel_rfl) rfl rfl)) rfl (X.binop rfl (Sx.ev 198 (.int .i64 rn26) (by kernel_rfl)) (Sx.ev 199 (.int .i64 A) (by kernel_rfl)) (X.neqI Try.underlying3 h29)) g
                · intro ac done u W Sx g
                  replace g : Gr w27 W := g
                  exact X.val (X.w0 rfl) rfl (X.pickF rfl (Sx.ev 196 (.bool false) (by kernel_rfl)) (Sx.ev 200 (.bool false) (by kernel_rfl))) g
                · intro ac done u W Sx g
                  replace g : Gr w27 W := g
                  exact X.val (X.w0 rfl) rfl (X.move rfl (Sx.ev 201 (.bool false) (by kernel_rfl))) g
                · intro ac done u W Sx g
                  replace g : Gr w27 W := g
                  exact X.val (X.w1 rfl (Sx.yl 8 202 false (by kernel_rfl) rfl rfl)) rfl (X.move rfl (Sx.ev 11 (.int .i64 A) (by kernel_rfl))) g
                · intro ac done u W Sx g
                  replace g : Gr w27 W := g
                  exact X.val (X.w1 rfl (Sx.yl 8 202 false (by kernel_rfl) rfl rfl)) rfl (X.binop rfl (Sx.ev 203 (.int .i64 A) (by kernel_rfl)) (X.kc (.int .i64 0) rfl) (X.gtrI Try.underlying3 h30)) g
                · intro ac done u W Sx g
                  replace g : Gr w27 W := g
                  exact X.val (X.w1 rfl (Sx.yl 8 202 false (by kernel_rfl) rfl rfl)) rfl (X.move rfl (Sx.ev 204 (.bool false) (by kernel_rfl))) g
                · intro ac done u W Sx g
                  replace g : Gr w27 W := g
                  exact X.skip (X.w2 rfl (Sx.yl 11 205 false (by kernel_rfl) rfl rfl) rfl) rfl g
                · intro ac done u W Sx g
                  replace g : Gr w27 W := g
                  exact X.skip (X.w2 rfl (Sx.yl 11 205 false (by kernel_rfl) rfl rfl) rfl) rfl g
                · intro ac done u W Sx g
                  replace g : Gr w27 W := g
                  exact X.skip (X.w2 rfl (Sx.yl 11 205 false (by kernel_rfl) rfl rfl) rfl) rfl g
                · intro ac done u W Sx g
                  replace g : Gr w27 W := g
                  exact X.skip (X.w2 rfl (Sx.yl 11 205 false (by kernel_rfl) rfl rfl) rfl) rfl g
                · intro ac done u W Sx g
                  replace g : Gr w27 W := g
                  exact X.skip (X.w2 rfl (Sx.yl 11 205 false (by kernel_rfl) rfl rfl) rfl) rfl g
                · intro ac done u W Sx g
                  replace g : Gr w27 W := g
                  exact X.skip (X.w2 rfl (Sx.yl 11 205 false (by kernel_rfl) rfl rfl) rfl) rfl g
                · intro ac done u W Sx g
                  replace g : Gr w27 W := g
                  exact X.skip (X.w2 rfl (Sx.yl 11 205 false (by kernel_rfl) rfl rfl) rfl) rfl g
                · intro ac done u W Sx g
                  replace g : Gr w27 W := g
                  exact X.skip (X.w2 rfl (Sx.yl 11 205 false (by kernel_rfl) rfl rfl) rfl) rfl g
                · intro ac done u W Sx g
                  replace g : Gr w27 W := g
                  exact X.skip (X.w2 rfl (Sx.yl 11 205 false (by kernel_rfl) rfl rfl) rfl) rfl g
                · intro ac done u W Sx g
                  replace g : Gr w27 W := g
                  exact X.val (X.w1 rfl (Sx.yl 8 202 false (by kernel_rfl) rfl rfl)) rfl (X.pickF rfl (Sx.ev 205 (.bool false) (by kernel_rfl)) (X.kc (.bool false) rfl)) g
                · intro ac done u W Sx g
                  replace g : Gr w27 W := g
                  exact X.val (X.w0 rfl) rfl (X.pickF rfl (Sx.ev 202 (.bool false) (by kernel_rfl)) (Sx.ev 215 (.bool false) (by kernel_rfl))) g
                intro ac u w31 hs hd hl ho g
                replace g : Gr w27 w31 := g
                replace F : Fr ac 248 [(0, .agg #[.slice ta tn tc, .slice ca cn cc]), (1, .agg #[.slice a n c, .slice b m d]), (2, .agg #[.slice fa fn fc, .slice pa pn pc, .int .i64 bu, .int .i64 dn, .slice ma mn mc]), (3, .pointer (some ⟨w.heap.size, 0, none⟩)), (4, .pointer (some ⟨w3.heap.size, 0, none⟩)), (5, .pointer (some ⟨w4.heap.size, 0, none⟩)), (7, .slice ra9 rn9 rc9), (8, .int .i64 0), (9, .slice ra14 rn14 rc14), (10, .slice la n lc), (11, .int .i64 A), (12, .int .i64 rn14), (17, .slice va rn9 vc), (18, .int .i64 rn9), (19, .slice ra21 rn21 rc21), (20, .slice ra26 rn26 rc26), (32, .bool false), (51, .bool false), (66, .bool false), (77, .bool false), (149, .bool false), (182, .bool false), (216, .bool false)] := X.fr hs hd hl _ (by kernel_rfl)
                clear hs hd hl ho
                replace G := G.trans g
                replace hC := hC.gr g
                replace GB_ := GB_.trans g
                replace GBB_ := GBB_.trans g
                replace hf := hf.gr g
                replace hx := hx.gr g
                replace hy := hy.gr g
                replace hm := hm.gr g
                replace hR9 := hR9.gr g
                replace hR14 := hR14.gr g
                replace hla := hla.gr g
                replace hO := hO.gr g
                replace hfu := hfu.gr g
                replace hR21 := hR21.gr g
                replace hR26 := hR26.gr g
                clear g
                refine X.thenN ?_
                refine wp_cond_false (F.ev 216 (.bool false) (by kernel_rfl)) ?_
                refine wp_skip ?_
                refine X.thenN ?_
                refine wp_seq ?_
                refine wp_seq ?_
                refine wp_region_lit ?_
                refine X.pval F (X.w0 rfl) rfl (X.assign rfl (X.kc (.int .i64 0) rfl)) ?_
                clear F ac
                intro ac F
                refine wpList_nil ?_
                replace F : Fr ac 248 [(0, .agg #[.slice ta tn tc, .slice ca cn cc]), (1, .agg #[.slice a n c, .slice b m d]), (2, .agg #[.slice fa fn fc, .slice pa pn pc, .int .i64 bu, .int .i64 dn, .slice ma mn mc]), (3, .pointer (some ⟨w.heap.size, 0, none⟩)), (4, .pointer (some ⟨w3.heap.size, 0, none⟩)), (5, .pointer (some ⟨w4.heap.size, 0, none⟩)), (7, .slice ra9 rn9 rc9), (8, .int .i64 0), (9, .slice ra14 rn14 rc14), (10, .slice la n lc), (11, .int .i64 A), (12, .int .i64 rn14), (17, .slice va rn9 vc), (18, .int .i64 rn9), (19, .slice ra21 rn21 rc21), (20, .slice ra26 rn26 rc26), (21, .int .i64 0), (32, .bool false), (51, .bool false), (66, .bool false), (77, .bool false), (149, .bool false), (182, .bool false), (216, .bool false)] := F.sub _ (by kernel_rfl)
                refine X.thenN ?_
                refine wp_block ?_
                have hfBBB := hf
                have hxBBB := hx
                have hyBBB := hy
                have hmBBB := hm
                have hR9BBB := hR9
                have hR14BBB := hR14
                have hlaBBB := hla
                have hOBBB := hO
                have hfuBBB := hfu
                have hR21BBB := hR21
                have hR26BBB := hR26
                have hCBBB := hC
                have GBBB := G
                refine wp_loop_ghost (fun me_ ac wr => ∃ (k : Nat), me_ = rn26 - k ∧ Gr w31 wr ∧ k ≤ rn26 ∧ Fr ac 248 [(0, .agg #[.slice ta tn tc, .slice ca cn cc]), (1, .agg #[.slice a n c, .slice b m d]), (2, .agg #[.slice fa fn fc, .slice pa pn pc, .int .i64 bu, .int .i64 dn, .slice ma mn mc]), (3, .pointer (some ⟨w.heap.size, 0, none⟩)), (4, .pointer (some ⟨w3.heap.size, 0, none⟩)), (5, .pointer (some ⟨w4.heap.size, 0, none⟩)), (7, .slice ra9 rn9 rc9), (8, .int .i64 0), (9, .slice ra14 rn14 rc14), (10, .slice la n lc), (11, .int .i64 A), (12, .int .i64 rn14), (17, .slice va rn9 vc), (18, .int .i64 rn9), (19, .slice ra21 rn21 rc21), (20, .slice ra26 rn26 rc26), (21, .int .i64 k), (32, .bool false), (51, .bool false), (66, .bool false), (77, .bool false), (149, .bool false), (182, .bool false), (216, .bool false)]) _ ⟨0, rfl, Gr.refl _, Nat.zero_le _, F.sub _ (by kernel_rfl)⟩ ?_
                clear F
                intro me_ ac w32 hI
                obtain ⟨k, rfl, gr, hk, F⟩ := hI
                replace G := GBBB.trans gr
                replace hC := hCBBB.gr gr
                replace hf := hfBBB.gr gr
                replace hx := hxBBB.gr gr
                replace hy := hyBBB.gr gr
                replace hm := hmBBB.gr gr
                replace hR9 := hR9BBB.gr gr
                replace hR14 := hR14BBB.gr gr
                replace hla := hlaBBB.gr gr
                replace hO := hOBBB.gr gr
                replace hfu := hfuBBB.gr gr
                replace hR21 := hR21BBB.gr gr
                replace hR26 := hR26BBB.gr gr
                replace GB_ := GB_.trans gr
                replace GBB_ := GBB_.trans gr
                have GBBB_ := gr
                clear gr
                refine wp_seq ?_
                refine wp_seq ?_
                refine wp_region_lit ?_
                refine X.pval F (X.w0 rfl) rfl (X.move rfl (F.ev 21 (.int .i64 k) (by kernel_rfl))) ?_
                clear F ac
                intro ac F
                refine X.pval F (X.w0 rfl) rfl (X.move rfl (F.ev 20 (.slice ra26 rn26 rc26) (by kernel_rfl))) ?_
                clear F ac
                intro ac F
                refine X.pval F (X.w0 rfl) rfl (X.len1 Try.underlying22 rfl (F.ev 218 (.slice ra26 rn26 rc26) (by kernel_rfl))) ?_
                clear F ac
                intro ac F
                refine X.pval F (X.w0 rfl) rfl (X.binop rfl (F.ev 217 (.int .i64 k) (by kernel_rfl)) (F.ev 219 (.int .i64 rn26) (by kernel_rfl)) (X.lssI Try.underlying3 rfl)) ?_
                clear F ac
                intro ac F
                refine wpList_nil ?_
                replace F : Fr ac 248 [(0, .agg #[.slice ta tn tc, .slice ca cn cc]), (1, .agg #[.slice a n c, .slice b m d]), (2, .agg #[.slice fa fn fc, .slice pa pn pc, .int .i64 bu, .int .i64 dn, .slice ma mn mc]), (3, .pointer (some ⟨w.heap.size, 0, none⟩)), (4, .pointer (some ⟨w3.heap.size, 0, none⟩)), (5, .pointer (some ⟨w4.heap.size, 0, none⟩)), (7, .slice ra9 rn9 rc9), (8, .int .i64 0), (9, .slice ra14 rn14 rc14), (10, .slice la n lc), (11, .int .i64 A), (12, .int .i64 rn14), (17, .slice va rn9 vc), (18, .int .i64 rn9), (19, .slice ra21 rn21 rc21), (20, .slice ra26 rn26 rc26), (21, .int .i64 k), (32, .bool false), (51, .bool false), (66, .bool false), (77, .bool false), (149, .bool false), (182, .bool false), (216, .bool false), (220, .bool (decide ((k : Int) < rn26)))] := F.sub _ (by kernel_rfl)
                refine X.thenN ?_
                cases h33 : decide ((k : Int) < rn26) with
                | false =>
                  try rw [h33] at F
                  have h33p : ¬ ((k : Int) < rn26) := of_decide_eq_false h33
                  obtain rfl : rn26 = k := by omega
                  refine wp_cond_false (F.ev 220 (.bool false) (by kernel_rfl)) ?_
                  refine wp_exit ?_
                  refine X.thenX ?_
                  refine X.thenX ?_
                  refine X.blockX ?_
                  refine X.thenN ?_
                  refine wp_seq ?_
                  refine wp_region_lit ?_
                  refine X.pval F (X.w0 rfl) rfl (X.move rfl (F.ev 9 (.slice ra14 rn14 rc14) (by kernel_rfl))) ?_
                  clear F ac
                  intro ac F
                  refine X.pval F (X.w0 rfl) rfl (X.len1 Try.underlying22 rfl (F.ev 239 (.slice ra14 rn14 rc14) (by kernel_rfl))) ?_
                  clear F ac
                  intro ac F
                  refine X.pval F (X.w0 rfl) rfl (X.field rfl (F.ev 5 (.pointer (some ⟨w4.heap.size, 0, none⟩)) (by kernel_rfl)) (X.fld Try.underlying41 rfl (Try.siz26 _) rfl rfl)) ?_
                  clear F ac
                  intro ac F
                  refine X.pval F (X.w0 rfl) rfl (X.load rfl (F.ev 241 (.pointer (some ⟨w4.heap.size, 4, none⟩)) (by kernel_rfl)) (X.ld1 (Try.agg26 _) (hC.at 8 rfl))) ?_
                  clear F ac
                  intro ac F
                  refine X.pval F (X.w0 rfl) rfl (X.len1 Try.underlying26 rfl (F.ev 242 (.slice ma mn mc) (by kernel_rfl))) ?_
                  clear F ac
                  intro ac F
                  refine X.pval F (X.w0 rfl) rfl (X.binop rfl (F.ev 240 (.int .i64 rn14) (by kernel_rfl)) (F.ev 243 (.int .i64 mn) (by kernel_rfl)) (X.eqlI Try.underlying3 rfl)) ?_
                  clear F ac
                  intro ac F
                  refine X.pval F (X.w0 rfl) rfl (X.move rfl (F.ev 244 (.bool ((rn14 : Int) == mn)) (by kernel_rfl))) ?_
                  clear F ac
                  intro ac F
                  have h35 : ((rn14 : Int) == mn) = true := by simp; have := HMN.out; omega
                  try rw [h35] at F
                  refine X.pcall F (X.w1 rfl (F.yl (j := 6) (d := 245) (b := true) rfl (by kernel_rfl))) rfl (X.enter (F := 16) rfl (X.kc (.func (.func 16) #[] #[]) rfl) rfl (enters_of Try.func16 (by kernel_rfl) rfl _)) (look_any w32) ?_
                  clear F ac
                  rintro e w36 ⟨rfl, g⟩
                  refine ⟨_, rfl, ?_⟩
                  intro ac F
                  replace G := G.trans g
                  replace hC := hC.gr g
                  replace GB_ := GB_.trans g
                  replace GBB_ := GBB_.trans g
                  replace GBBB_ := GBBB_.trans g
                  replace hf := hf.gr g
                  replace hx := hx.gr g
                  replace hy := hy.gr g
                  replace hm := hm.gr g
                  replace hR9 := hR9.gr g
                  replace hR14 := hR14.gr g
                  replace hla := hla.gr g
                  replace hO := hO.gr g
                  replace hfu := hfu.gr g
                  replace hR21 := hR21.gr g
                  replace hR26 := hR26.gr g
                  clear g
                  refine X.pval F (X.w0 rfl) rfl (X.pickT rfl (F.ev 245 (.bool true) (by kernel_rfl)) (F.ev 246 (.bool true) (by kernel_rfl))) ?_
                  clear F ac
                  intro ac F
                  refine X.pval F (X.w0 rfl) rfl (X.assign rfl (F.ev 247 (.bool true) (by kernel_rfl))) ?_
                  clear F ac
                  intro ac F
                  refine wpList_nil ?_
                  replace F : Fr ac 248 [(0, .agg #[.slice ta tn tc, .slice ca cn cc]), (1, .agg #[.slice a n c, .slice b m d]), (2, .agg #[.slice fa fn fc, .slice pa pn pc, .int .i64 bu, .int .i64 dn, .slice ma mn mc]), (3, .pointer (some ⟨w.heap.size, 0, none⟩)), (4, .pointer (some ⟨w3.heap.size, 0, none⟩)), (5, .pointer (some ⟨w4.heap.size, 0, none⟩)), (6, .bool true), (7, .slice ra9 rn9 rc9), (8, .int .i64 0), (9, .slice ra14 rn14 rc14), (10, .slice la n lc), (11, .int .i64 A), (12, .int .i64 rn14), (17, .slice va rn9 vc), (18, .int .i64 rn9), (19, .slice ra21 rn21 rc21), (20, .slice ra26 rn26 rc26), (21, .int .i64 rn26), (32, .bool false), (51, .bool false), (66, .bool false), (77, .bool false), (149, .bool false), (182, .bool false), (216, .bool false), (220, .bool false)] := F.sub _ (by kernel_rfl)
                  refine X.thenN ?_
                  refine wp_ret ?_
                  exact X.ret1 F rfl (by kernel_rfl) ⟨rfl, G⟩
                | true =>
                  try rw [h33] at F
                  have h33p : ((k : Int) < rn26) := of_decide_eq_true h33
                  have hlt : k < rn26 := by omega
                  have hlb := hR26.lt
                  obtain ⟨sd, qa, qn, qc, hsa, hsb, hsc, hqi⟩ := hR26.at hlt
                  subst hsa
                  have hbl : k < A := by have := hR26.len; rw [bk_len] at this; omega
                  rw [bk_at _ _ _ _ hbl] at hqi
                  have hBl : A - 1 - k ≤ Q.length := by have := HLN.out; omega
                  have HSS : Hid (StOk f (pAt xs Q (A - 1 - k))) := Lib.hid (HPL.out.at hBl)
                  have HSW : Hid (worksB f (pAt xs Q (A - 1 - k)) = true) := Lib.hid (HPL.out.works HWX.out hBl)
                  generalize pAt xs Q (A - 1 - k) = S at *
                  replace hC : RCells w32 [(⟨w.heap.size, 0, none⟩, .slice ta tn tc), (⟨w.heap.size, 1, none⟩, .slice ca cn cc), (⟨w3.heap.size, 0, none⟩, .slice a n c), (⟨w3.heap.size, 1, none⟩, .slice b m d), (⟨w4.heap.size, 0, none⟩, .slice fa fn fc), (⟨w4.heap.size, 1, none⟩, .slice pa pn pc), (⟨w4.heap.size, 2, none⟩, .int .i64 bu), (⟨w4.heap.size, 3, none⟩, .int .i64 dn), (⟨w4.heap.size, 4, none⟩, .slice ma mn mc), (sd.add k, .slice qa qn qc)] := hC.append ((RCells.cons hsc (RCells.nil _)))
                  clear hsc
                  refine wp_cond_true (F.ev 220 (.bool true) (by kernel_rfl)) ?_
                  refine wp_skip ?_
                  refine X.thenN ?_
                  refine wp_seq ?_
                  refine wp_block ?_
                  refine wp_seq ?_
                  refine region_x F [some (.agg #[.slice ta tn tc, .slice ca cn cc]), some (.slice (some sd) rn26 rc26), some (.int .i64 k), some (.pointer (some (sd.add k))), some (.slice qa qn qc), some (.tuple #[.int .i64 (wI f S), .bool (wB f S), .int .i64 (wE f S)]), some (.tuple #[.int .i64 (wI f S), .bool (wB f S), .int .i64 (wE f S)]), some (.int .i64 (wI f S)), some (.bool (wB f S)), some (.int .i64 (wE f S)), some (.int .i64 (wI f S)), some (.bool (wB f S)), some (.int .i64 (wE f S))] (X.RG w32) rfl ⟨by kernel_rfl, of_decide_eq_true (by kernel_rfl), by kernel_rfl, by kernel_rfl, by kernel_rfl⟩ (fun _ => ⟨Gr.refl _, Gr.drew _⟩) ⟨?_, ?_, ?_, ?_, ?_, ?_, ?_, ?_, ?_, ?_, ?_, ?_, ?_, trivial⟩ ?_
                  · intro ac done u W Sx g
                    replace g : Gr w32 W := g
                    exact X.val (X.w0 rfl) rfl (X.load rfl (Sx.ev 3 (.pointer (some ⟨w.heap.size, 0, none⟩)) (by kernel_rfl)) (X.ldN (Try.agg25 _) (Try.siz25 _) (X.c2 ((hC.gr g).at 0 rfl) ((hC.gr g).at 1 rfl)))) g
                  · intro ac done u W Sx g
                    replace g : Gr w32 W := g
                    exact X.val (X.w0 rfl) rfl (X.move rfl (Sx.ev 20 (.slice (some sd) rn26 rc26) (by kernel_rfl))) g
                  · intro ac done u W Sx g
                    replace g : Gr w32 W := g
                    exact X.val (X.w0 rfl) rfl (X.move rfl (Sx.ev 21 (.int .i64 k) (by kernel_rfl))) g
                  · intro ac done u W Sx g
                    replace g : Gr w32 W := g
                    exact X.val (X.w0 rfl) rfl (X.index rfl (Sx.ev 225 (.slice (some sd) rn26 rc26) (by kernel_rfl)) (Sx.ev 226 (.int .i64 k) (by kernel_rfl)) (X.idx Try.underlying22 (Try.siz26 _) (by omega) (by omega) (by rw [Nat.mul_one]; try rw [hA2]))) g
                  · intro ac done u W Sx g
                    replace g : Gr w32 W := g
                    exact X.val (X.w0 rfl) rfl (X.load rfl (Sx.ev 227 (.pointer (some (sd.add k))) (by kernel_rfl)) (X.ld1 (Try.agg26 _) ((hC.gr g).at 9 rfl))) g
                  · intro ac done u W Sx g
                    replace g : Gr w32 W := g
                    refine X.call (X.w0 rfl) (X.enter (F := 38) rfl (X.kc (.func (.func 38) #[] #[]) rfl) (X.a2 (Sx.ev 224 (.agg #[.slice ta tn tc, .slice ca cn cc]) (by kernel_rfl)) (Sx.ev 228 (.slice qa qn qc) (by kernel_rfl))) (enters_of Try.func38 (by kernel_rfl) rfl _)) (Works_any ta ca qa tn tc cn cc qn qc f S W (hf.gr g) (hqi.gr g)) ?_
                    rintro e W' ⟨rfl, g2⟩
                    exact ⟨_, rfl, X.kn rfl, g.trans g2⟩
                  · intro ac done u W Sx g
                    replace g : Gr w32 W := g
                    exact X.val (X.w0 rfl) rfl (X.move rfl (Sx.ev 229 (.tuple #[.int .i64 (wI f S), .bool (wB f S), .int .i64 (wE f S)]) (by kernel_rfl))) g
                  · intro ac done u W Sx g
                    replace g : Gr w32 W := g
                    exact X.val (X.w0 rfl) rfl (X.extract rfl (Sx.ev 223 (.tuple #[.int .i64 (wI f S), .bool (wB f S), .int .i64 (wE f S)]) (by kernel_rfl)) rfl) g
                  · intro ac done u W Sx g
                    replace g : Gr w32 W := g
                    exact X.val (X.w0 rfl) rfl (X.extract rfl (Sx.ev 223 (.tuple #[.int .i64 (wI f S), .bool (wB f S), .int .i64 (wE f S)]) (by kernel_rfl)) rfl) g
                  · intro ac done u W Sx g
                    replace g : Gr w32 W := g
                    exact X.val (X.w0 rfl) rfl (X.extract rfl (Sx.ev 223 (.tuple #[.int .i64 (wI f S), .bool (wB f S), .int .i64 (wE f S)]) (by kernel_rfl)) rfl) g
                  · intro ac done u W Sx g
                    replace g : Gr w32 W := g
                    exact X.val (X.w0 rfl) rfl (X.assign rfl (Sx.ev 230 (.int .i64 (wI f S)) (by kernel_rfl))) g
                  · intro ac done u W Sx g
                    replace g : Gr w32 W := g
                    exact X.val (X.w0 rfl) rfl (X.assign rfl (Sx.ev 231 (.bool (wB f S)) (by kernel_rfl))) g
                  · intro ac done u W Sx g
                    replace g : Gr w32 W := g
                    exact X.val (X.w0 rfl) rfl (X.assign rfl (Sx.ev 232 (.int .i64 (wE f S)) (by kernel_rfl))) g
                  intro ac u w37 hs hd hl ho g
                  replace g : Gr w32 w37 := g
                  replace F : Fr ac 248 [(0, .agg #[.slice ta tn tc, .slice ca cn cc]), (1, .agg #[.slice a n c, .slice b m d]), (2, .agg #[.slice fa fn fc, .slice pa pn pc, .int .i64 bu, .int .i64 dn, .slice ma mn mc]), (3, .pointer (some ⟨w.heap.size, 0, none⟩)), (4, .pointer (some ⟨w3.heap.size, 0, none⟩)), (5, .pointer (some ⟨w4.heap.size, 0, none⟩)), (7, .slice ra9 rn9 rc9), (8, .int .i64 0), (9, .slice ra14 rn14 rc14), (10, .slice la n lc), (11, .int .i64 A), (12, .int .i64 rn14), (17, .slice va rn9 vc), (18, .int .i64 rn9), (19, .slice ra21 rn21 rc21), (20, .slice (some sd) rn26 rc26), (21, .int .i64 k), (23, .bool (wB f S)), (24, .int .i64 (wE f S)), (32, .bool false), (51, .bool false), (66, .bool false), (77, .bool false), (149, .bool false), (182, .bool false), (216, .bool false), (220, .bool true)] := X.fr hs hd hl _ (by kernel_rfl)
                  clear hs hd hl ho
                  replace G := G.trans g
                  replace hC := hC.gr g
                  replace GB_ := GB_.trans g
                  replace GBB_ := GBB_.trans g
                  replace GBBB_ := GBBB_.trans g
                  replace hf := hf.gr g
                  replace hx := hx.gr g
                  replace hy := hy.gr g
                  replace hm := hm.gr g
                  replace hR9 := hR9.gr g
                  replace hR14 := hR14.gr g
                  replace hla := hla.gr g
                  replace hO := hO.gr g
                  replace hfu := hfu.gr g
                  replace hR21 := hR21.gr g
                  replace hR26 := hR26.gr g
                  replace hqi := hqi.gr g
                  clear g
                  refine X.thenN ?_
                  refine wp_seq ?_
                  refine wp_region_lit ?_
                  refine X.pval F (X.w0 rfl) rfl (X.move rfl (F.ev 24 (.int .i64 (wE f S)) (by kernel_rfl))) ?_
                  clear F ac
                  intro ac F
                  refine X.pval F (X.w0 rfl) rfl (X.binop rfl (F.ev 233 (.int .i64 (wE f S)) (by kernel_rfl)) (X.kc (.int .i64 0) rfl) (X.neqI Try.underlying31 rfl)) ?_
                  clear F ac
                  intro ac F
                  refine X.pval F (X.w0 rfl) rfl (X.move rfl (F.ev 234 (.bool ((wE f S : Int) != 0)) (by kernel_rfl))) ?_
                  clear F ac
                  intro ac F
                  have h39 : ((wE f S : Int) != 0) = false := by rw [wE_zero HCHK.out HSS.out]; rfl
                  try rw [h39] at F
                  refine X.pval F (X.w1 rfl (F.yl (j := 2) (d := 235) (b := false) rfl (by kernel_rfl))) rfl (X.move rfl (F.ev 23 (.bool (wB f S)) (by kernel_rfl))) ?_
                  clear F ac
                  intro ac F
                  refine X.pval F (X.w1 rfl (F.yl (j := 2) (d := 235) (b := false) rfl (by kernel_rfl))) rfl (X.notB rfl (F.ev 236 (.bool (wB f S)) (by kernel_rfl)) rfl) ?_
                  clear F ac
                  intro ac F
                  refine X.pval F (X.w0 rfl) rfl (X.pickF rfl (F.ev 235 (.bool false) (by kernel_rfl)) (F.ev 237 (.bool (!(wB f S))) (by kernel_rfl))) ?_
                  clear F ac
                  intro ac F
                  refine wpList_nil ?_
                  replace F : Fr ac 248 [(0, .agg #[.slice ta tn tc, .slice ca cn cc]), (1, .agg #[.slice a n c, .slice b m d]), (2, .agg #[.slice fa fn fc, .slice pa pn pc, .int .i64 bu, .int .i64 dn, .slice ma mn mc]), (3, .pointer (some ⟨w.heap.size, 0, none⟩)), (4, .pointer (some ⟨w3.heap.size, 0, none⟩)), (5, .pointer (some ⟨w4.heap.size, 0, none⟩)), (7, .slice ra9 rn9 rc9), (8, .int .i64 0), (9, .slice ra14 rn14 rc14), (10, .slice la n lc), (11, .int .i64 A), (12, .int .i64 rn14), (17, .slice va rn9 vc), (18, .int .i64 rn9), (19, .slice ra21 rn21 rc21), (20, .slice (some sd) rn26 rc26), (21, .int .i64 k), (23, .bool (wB f S)), (24, .int .i64 (wE f S)), (32, .bool false), (51, .bool false), (66, .bool false), (77, .bool false), (149, .bool false), (182, .bool false), (216, .bool false), (220, .bool true), (238, .bool (!(wB f S)))] := F.sub _ (by kernel_rfl)
                  refine X.thenN ?_
                  have h41 : wB f S = true := wB_true HCHK.out HSS.out HSW.out
                  try rw [h41] at F
                  refine wp_cond_false (F.ev 238 (.bool false) (by kernel_rfl)) ?_
                  refine wp_skip ?_
                  refine X.blockN ?_
                  refine X.thenN ?_
                  refine wp_region_lit ?_
                  refine X.pval F (X.w0 rfl) rfl (X.move rfl (F.ev 21 (.int .i64 k) (by kernel_rfl))) ?_
                  clear F ac
                  intro ac F
                  refine X.pval F (X.w0 rfl) rfl (X.binop rfl (F.ev 221 (.int .i64 k) (by kernel_rfl)) (X.kc (.int .i64 1) rfl) (X.addI Try.underlying3 rfl (by omega) (by omega))) ?_
                  clear F ac
                  intro ac F
                  refine X.pval F (X.w0 rfl) rfl (X.assign rfl (F.ev 222 (.int .i64 ((k : Int) + 1)) (by kernel_rfl))) ?_
                  clear F ac
                  intro ac F
                  refine wpList_nil ?_
                  replace F : Fr ac 248 [(0, .agg #[.slice ta tn tc, .slice ca cn cc]), (1, .agg #[.slice a n c, .slice b m d]), (2, .agg #[.slice fa fn fc, .slice pa pn pc, .int .i64 bu, .int .i64 dn, .slice ma mn mc]), (3, .pointer (some ⟨w.heap.size, 0, none⟩)), (4, .pointer (some ⟨w3.heap.size, 0, none⟩)), (5, .pointer (some ⟨w4.heap.size, 0, none⟩)), (7, .slice ra9 rn9 rc9), (8, .int .i64 0), (9, .slice ra14 rn14 rc14), (10, .slice la n lc), (11, .int .i64 A), (12, .int .i64 rn14), (17, .slice va rn9 vc), (18, .int .i64 rn9), (19, .slice ra21 rn21 rc21), (20, .slice (some sd) rn26 rc26), (21, .int .i64 ((k : Int) + 1)), (23, .bool true), (24, .int .i64 (wE f S)), (32, .bool false), (51, .bool false), (66, .bool false), (77, .bool false), (149, .bool false), (182, .bool false), (216, .bool false), (220, .bool true), (238, .bool false)] := F.sub _ (by kernel_rfl)
                  refine X.thenN ?_
                  refine ⟨_, ?_, k + 1, rfl, GBBB_, by omega, F.sub _ (by kernel_rfl)⟩
                  omega
              | true =>
                try rw [h30] at F
                have h30p : ((0 : Int) < A) := of_decide_eq_true h30
                have hA1 : A - 1 < rn26 := by have := hR26.len; rw [bk_len] at this; omega
                have hA2 : ((A : Int) - 1).toNat = A - 1 := by omega
                have hA3 : ((A : Int) - 1) < rn26 := by omega
                have hA4 : (0 : Int) ≤ (A : Int) - 1 := by omega
                obtain ⟨ed, ea, en, ec, heA, heb, hec, hei⟩ := hR26.at hA1
                subst heA
                rw [bk_at _ _ _ _ (by omega), show A - 1 - (A - 1) = 0 from by omega, show pAt xs Q 0 = xs from rfl] at hei
                rw [← hA2] at hec
                replace hC : RCells w27 [(⟨w.heap.size, 0, none⟩, .slice ta tn tc), (⟨w.heap.size, 1, none⟩, .slice ca cn cc), (⟨w3.heap.size, 0, none⟩, .slice a n c), (⟨w3.heap.size, 1, none⟩, .slice b m d), (⟨w4.heap.size, 0, none⟩, .slice fa fn fc), (⟨w4.heap.size, 1, none⟩, .slice pa pn pc), (⟨w4.heap.size, 2, none⟩, .int .i64 bu), (⟨w4.heap.size, 3, none⟩, .int .i64 dn), (⟨w4.heap.size, 4, none⟩, .slice ma mn mc), (ed.add ((A : Int) - 1).toNat, .slice ea en ec)] := hC.append ((RCells.cons hec (RCells.nil _)))
                clear hec
                refine region_x F [some (.int .i64 0), some (.bool false), some (.bool false), some (.slice (some ed) rn26 rc26), some (.int .i64 rn26), some (.int .i64 A), some (.bool false), some (.bool false), some (.bool false), some (.int .i64 A), some (.bool true), some (.bool true), some (.slice (some ed) rn26 rc26), some (.int .i64 A), some (.int .i64 ((A : Int) - 1)), some (.pointer (some (ed.add ((A : Int) - 1).toNat))), some (.slice ea en ec), some (.pointer (some ⟨w3.heap.size, 0, none⟩)), some (.slice a n c), some (.bool true), some (.bool false), some (.bool false), some (.bool false)] (X.RG w27) rfl ⟨by kernel_rfl, of_decide_eq_true (by kernel_rfl), by kernel_rfl, by kernel_rfl, by kernel_rfl⟩ (fun _ => ⟨Gr.refl _, Gr.drew _⟩) ⟨?_, ?_, ?_, ?_, ?_, ?_, ?_, ?_, ?_, ?_, ?_, ?_, ?_, ?_, ?_, ?_, ?_, ?_, ?_, ?_, ?_, ?_, ?_, trivial⟩ ?_
                · intro ac done u W Sx g
                  replace g : Gr w27 W := g
                  exact X.val (X.w0 rfl) rfl (X.move rfl (Sx.ev 8 (.int .i64 0) (by kernel_rfl))) g
                · intro ac done u W Sx g
                  replace g : Gr w27 W := g
                  exact X.val (X.w0 rfl) rfl (X.binop rfl (Sx.ev 194 (.int .i64 0) (by kernel_rfl)) (X.kc (.int .i64 0) rfl) (X.neqI Try.underlying31 (show ((0 : Int) != 0) = false by simp))) g
                · intro ac done u W Sx g
                  replace g : Gr w27 W := g
                  exact X.val (X.w0 rfl) rfl (X.move rfl (Sx.ev 195 (.bool false) (by kernel_rfl))) g
                · intro ac done u W Sx g
                  replace g : Gr w27 W := g
                  exact X.val (X.w1 rfl (Sx.yl 2 196 false (by kernel_rfl) rfl rfl)) rfl (X.move rfl (Sx.ev 20 (.slice (some ed) rn26 rc26) (by kernel_rfl))) g
                · intro ac done u W Sx g
                  replace g : Gr w27 W := g
                  exact X.val (X.w1 rfl (Sx.yl 2 196 false (by kernel_rfl) rfl rfl)) rfl (X.len1 Try.underlying22 rfl (Sx.ev 197 (.slice (some ed) rn26 rc26) (by kernel_rfl))) g
                · intro ac done u W Sx g
                  replace g : Gr w27 W := g
                  exact X.val (X.w1 rfl (Sx.yl 2 196 false (by kernel_rfl) rfl rfl)) rfl (X.move rfl (Sx.ev 11 (.int .i64 A) (by kernel_rfl))) g
                · intro ac done u W Sx g
                  replace g : Gr w27 W := g
                  exact X.val (X.w1 rfl (Sx.yl 2 196 false (by kernel_rfl) rfl rfl)) rfl (X.binop rfl (Sx.ev 198 (.int .i64 rn26) (by kernel_rfl)) (Sx.ev 199 (.int .i64 A) (by kernel_rfl)) (X.neqI Try.underlying3 h29)) g
                · intro ac done u W Sx g
                  replace g : Gr w27 W := g
                  exact X.val (X.w0 rfl) rfl (X.pickF rfl (Sx.ev 196 (.bool false) (by kernel_rfl)) (Sx.ev 200 (.bool false) (by kernel_rfl))) g
                · intro ac done u W Sx g
                  replace g : Gr w27 W := g
                  exact X.val (X.w0 rfl) rfl (X.move rfl (Sx.ev 201 (.bool false) (by kernel_rfl))) g
                · intro ac done u W Sx g
                  replace g : Gr w27 W := g
                  exact X.val (X.w1 rfl (Sx.yl 8 202 false (by kernel_rfl) rfl rfl)) rfl (X.move rfl (Sx.ev 11 (.int .i64 A) (by kernel_rfl))) g
                · intro ac done u W Sx g
                  replace g : Gr w27 W := g
                  exact X.val (X.w1 rfl (Sx.yl 8 202 false (by kernel_rfl) rfl rfl)) rfl (X.binop rfl (Sx.ev 203 (.int .i64 A) (by kernel_rfl)) (X.kc (.int .i64 0) rfl) (X.gtrI Try.underlying3 h30)) g
                · intro ac done u W Sx g
                  replace g : Gr w27 W := g
                  exact X.val (X.w1 rfl (Sx.yl 8 202 false (by kernel_rfl) rfl rfl)) rfl (X.move rfl (Sx.ev 204 (.bool true) (by kernel_rfl))) g
                · intro ac done u W Sx g
                  replace g : Gr w27 W := g
                  exact X.val (X.w1 rfl (Sx.yl 11 205 true (by kernel_rfl) rfl rfl)) rfl (X.move rfl (Sx.ev 20 (.slice (some ed) rn26 rc26) (by kernel_rfl))) g
                · intro ac done u W Sx g
                  replace g : Gr w27 W := g
                  exact X.val (X.w1 rfl (Sx.yl 11 205 true (by kernel_rfl) rfl rfl)) rfl (X.move rfl (Sx.ev 11 (.int .i64 A) (by kernel_rfl))) g
                · intro ac done u W Sx g
                  replace g : Gr w27 W := g
                  exact X.val (X.w1 rfl (Sx.yl 11 205 true (by kernel_rfl) rfl rfl)) rfl (X.binop rfl (Sx.ev 207 (.int .i64 A) (by kernel_rfl)) (X.kc (.int .i64 1) rfl) (X.subI Try.underlying3 rfl (by omega) (by omega))) g
                · intro ac done u W Sx g
                  replace g : Gr w27 W := g
                  exact X.val (X.w1 rfl (Sx.yl 11 205 true (by kernel_rfl) rfl rfl)) rfl (X.index rfl (Sx.ev 206 (.slice (some ed) rn26 rc26) (by kernel_rfl)) (Sx.ev 208 (.int .i64 ((A : Int) - 1)) (by kernel_rfl)) (X.idx Try.underlying22 (Try.siz26 _) (by omega) (by omega) (by rw [Nat.mul_one]; try rw [hA2]))) g
                · intro ac done u W Sx g
                  replace g : Gr w27 W := g
                  exact X.val (X.w1 rfl (Sx.yl 11 205 true (by kernel_rfl) rfl rfl)) rfl (X.load rfl (Sx.ev 209 (.pointer (some (ed.add ((A : Int) - 1).toNat))) (by kernel_rfl)) (X.ld1 (Try.agg26 _) ((hC.gr g).at 9 rfl))) g
                · intro ac done u W Sx g
                  replace g : Gr w27 W := g
                  exact X.val (X.w1 rfl (Sx.yl 11 205 true (by kernel_rfl) rfl rfl)) rfl (X.field rfl (Sx.ev 4 (.pointer (some ⟨w3.heap.size, 0, none⟩)) (by kernel_rfl)) (X.fld Try.underlying28 rfl (Try.siz26 _) rfl rfl)) g
                · intro ac done u W Sx g
                  replace g : Gr w27 W := g
                  exact X.val (X.w1 rfl (Sx.yl 11 205 true (by kernel_rfl) rfl rfl)) rfl (X.load rfl (Sx.ev 211 (.pointer (some ⟨w3.heap.size, 0, none⟩)) (by kernel_rfl)) (X.ld1 (Try.agg26 _) ((hC.gr g).at 2 rfl))) g
                · intro ac done u W Sx g
                  replace g : Gr w27 W := g
                  refine X.call (X.w1 rfl (Sx.yl 11 205 true (by kernel_rfl) rfl rfl)) (X.enter (F := 22) rfl (X.kc (.func (.func 22) #[] #[]) rfl) (X.a2 (Sx.ev 210 (.slice ea en ec) (by kernel_rfl)) (Sx.ev 212 (.slice a n c) (by kernel_rfl))) (enters_of Try.func22 (by kernel_rfl) rfl _)) (by have hq := sameInts_any ea a en ec n c xs xs W (hei.gr g) (hx.gr g); rw [decide_eq_true rfl] at hq; exact hq) ?_
                  rintro e W' ⟨rfl, q, rfl⟩
                  exact ⟨_, rfl, X.kn rfl, g.trans (Gr.drewN _ _)⟩
                · intro ac done u W Sx g
                  replace g : Gr w27 W := g
                  exact X.val (X.w1 rfl (Sx.yl 11 205 true (by kernel_rfl) rfl rfl)) rfl (X.notB rfl (Sx.ev 213 (.bool true) (by kernel_rfl)) rfl) g
                · intro ac done u W Sx g
                  replace g : Gr w27 W := g
                  exact X.val (X.w1 rfl (Sx.yl 8 202 false (by kernel_rfl) rfl rfl)) rfl (X.pickT rfl (Sx.ev 205 (.bool true) (by kernel_rfl)) (Sx.ev 214 (.bool false) (by kernel_rfl))) g
                · intro ac done u W Sx g
                  replace g : Gr w27 W := g
                  exact X.val (X.w0 rfl) rfl (X.pickF rfl (Sx.ev 202 (.bool false) (by kernel_rfl)) (Sx.ev 215 (.bool false) (by kernel_rfl))) g
                intro ac u w42 hs hd hl ho g
                replace g : Gr w27 w42 := g
                replace F : Fr ac 248 [(0, .agg #[.slice ta tn tc, .slice ca cn cc]), (1, .agg #[.slice a n c, .slice b m d]), (2, .agg #[.slice fa fn fc, .slice pa pn pc, .int .i64 bu, .int .i64 dn, .slice ma mn mc]), (3, .pointer (some ⟨w.heap.size, 0, none⟩)), (4, .pointer (some ⟨w3.heap.size, 0, none⟩)), (5, .pointer (some ⟨w4.heap.size, 0, none⟩)), (7, .slice ra9 rn9 rc9), (8, .int .i64 0), (9, .slice ra14 rn14 rc14), (10, .slice la n lc), (11, .int .i64 A), (12, .int .i64 rn14), (17, .slice va rn9 vc), (18, .int .i64 rn9), (19, .slice ra21 rn21 rc21), (20, .slice (some ed) rn26 rc26), (32, .bool false), (51, .bool false), (66, .bool false), (77, .bool false), (149, .bool false), (182, .bool false), (216, .bool false)] := X.fr hs hd hl _ (by kernel_rfl)
                clear hs hd hl ho
                replace G := G.trans g
                replace hC := hC.gr g
                replace GB_ := GB_.trans g
                replace GBB_ := GBB_.trans g
                replace hf := hf.gr g
                replace hx := hx.gr g
                replace hy := hy.gr g
                replace hm := hm.gr g
                replace hR9 := hR9.gr g
                replace hR14 := hR14.gr g
                replace hla := hla.gr g
                replace hO := hO.gr g
                replace hfu := hfu.gr g
                replace hR21 := hR21.gr g
                replace hR26 := hR26.gr g
                replace hei := hei.gr g
                clear g
                refine X.thenN ?_
                refine wp_cond_false (F.ev 216 (.bool false) (by kernel_rfl)) ?_
                refine wp_skip ?_
                refine X.thenN ?_
                refine wp_seq ?_
                refine wp_seq ?_
                refine wp_region_lit ?_
                refine X.pval F (X.w0 rfl) rfl (X.assign rfl (X.kc (.int .i64 0) rfl)) ?_
                clear F ac
                intro ac F
                refine wpList_nil ?_
                replace F : Fr ac 248 [(0, .agg #[.slice ta tn tc, .slice ca cn cc]), (1, .agg #[.slice a n c, .slice b m d]), (2, .agg #[.slice fa fn fc, .slice pa pn pc, .int .i64 bu, .int .i64 dn, .slice ma mn mc]), (3, .pointer (some ⟨w.heap.size, 0, none⟩)), (4, .pointer (some ⟨w3.heap.size, 0, none⟩)), (5, .pointer (some ⟨w4.heap.size, 0, none⟩)), (7, .slice ra9 rn9 rc9), (8, .int .i64 0), (9, .slice ra14 rn14 rc14), (10, .slice la n lc), (11, .int .i64 A), (12, .int .i64 rn14), (17, .slice va rn9 vc), (18, .int .i64 rn9), (19, .slice ra21 rn21 rc21), (20, .slice (some ed) rn26 rc26), (21, .int .i64 0), (32, .bool false), (51, .bool false), (66, .bool false), (77, .bool false), (149, .bool false), (182, .bool false), (216, .bool false)] := F.sub _ (by kernel_rfl)
                refine X.thenN ?_
                refine wp_block ?_
                have hfBBB := hf
                have hxBBB := hx
                have hyBBB := hy
                have hmBBB := hm
                have hR9BBB := hR9
                have hR14BBB := hR14
                have hlaBBB := hla
                have hOBBB := hO
                have hfuBBB := hfu
                have hR21BBB := hR21
                have hR26BBB := hR26
                have heiBBB := hei
                have hCBBB := hC
                have GBBB := G
                refine wp_loop_ghost (fun me_ ac wr => ∃ (k : Nat), me_ = rn26 - k ∧ Gr w42 wr ∧ k ≤ rn26 ∧ Fr ac 248 [(0, .agg #[.slice ta tn tc, .slice ca cn cc]), (1, .agg #[.slice a n c, .slice b m d]), (2, .agg #[.slice fa fn fc, .slice pa pn pc, .int .i64 bu, .int .i64 dn, .slice ma mn mc]), (3, .pointer (some ⟨w.heap.size, 0, none⟩)), (4, .pointer (some ⟨w3.heap.size, 0, none⟩)), (5, .pointer (some ⟨w4.heap.size, 0, none⟩)), (7, .slice ra9 rn9 rc9), (8, .int .i64 0), (9, .slice ra14 rn14 rc14), (10, .slice la n lc), (11, .int .i64 A), (12, .int .i64 rn14), (17, .slice va rn9 vc), (18, .int .i64 rn9), (19, .slice ra21 rn21 rc21), (20, .slice (some ed) rn26 rc26), (21, .int .i64 k), (32, .bool false), (51, .bool false), (66, .bool false), (77, .bool false), (149, .bool false), (182, .bool false), (216, .bool false)]) _ ⟨0, rfl, Gr.refl _, Nat.zero_le _, F.sub _ (by kernel_rfl)⟩ ?_
                clear F
                intro me_ ac w43 hI
                obtain ⟨k, rfl, gr, hk, F⟩ := hI
                replace G := GBBB.trans gr
                replace hC := hCBBB.gr gr
                replace hf := hfBBB.gr gr
                replace hx := hxBBB.gr gr
                replace hy := hyBBB.gr gr
                replace hm := hmBBB.gr gr
                replace hR9 := hR9BBB.gr gr
                replace hR14 := hR14BBB.gr gr
                replace hla := hlaBBB.gr gr
                replace hO := hOBBB.gr gr
                replace hfu := hfuBBB.gr gr
                replace hR21 := hR21BBB.gr gr
                replace hR26 := hR26BBB.gr gr
                replace hei := heiBBB.gr gr
                replace GB_ := GB_.trans gr
                replace GBB_ := GBB_.trans gr
                have GBBB_ := gr
                clear gr
                refine wp_seq ?_
                refine wp_seq ?_
                refine wp_region_lit ?_
                refine X.pval F (X.w0 rfl) rfl (X.move rfl (F.ev 21 (.int .i64 k) (by kernel_rfl))) ?_
                clear F ac
                intro ac F
                refine X.pval F (X.w0 rfl) rfl (X.move rfl (F.ev 20 (.slice (some ed) rn26 rc26) (by kernel_rfl))) ?_
                clear F ac
                intro ac F
                refine X.pval F (X.w0 rfl) rfl (X.len1 Try.underlying22 rfl (F.ev 218 (.slice (some ed) rn26 rc26) (by kernel_rfl))) ?_
                clear F ac
                intro ac F
                refine X.pval F (X.w0 rfl) rfl (X.binop rfl (F.ev 217 (.int .i64 k) (by kernel_rfl)) (F.ev 219 (.int .i64 rn26) (by kernel_rfl)) (X.lssI Try.underlying3 rfl)) ?_
                clear F ac
                intro ac F
                refine wpList_nil ?_
                replace F : Fr ac 248 [(0, .agg #[.slice ta tn tc, .slice ca cn cc]), (1, .agg #[.slice a n c, .slice b m d]), (2, .agg #[.slice fa fn fc, .slice pa pn pc, .int .i64 bu, .int .i64 dn, .slice ma mn mc]), (3, .pointer (some ⟨w.heap.size, 0, none⟩)), (4, .pointer (some ⟨w3.heap.size, 0, none⟩)), (5, .pointer (some ⟨w4.heap.size, 0, none⟩)), (7, .slice ra9 rn9 rc9), (8, .int .i64 0), (9, .slice ra14 rn14 rc14), (10, .slice la n lc), (11, .int .i64 A), (12, .int .i64 rn14), (17, .slice va rn9 vc), (18, .int .i64 rn9), (19, .slice ra21 rn21 rc21), (20, .slice (some ed) rn26 rc26), (21, .int .i64 k), (32, .bool false), (51, .bool false), (66, .bool false), (77, .bool false), (149, .bool false), (182, .bool false), (216, .bool false), (220, .bool (decide ((k : Int) < rn26)))] := F.sub _ (by kernel_rfl)
                refine X.thenN ?_
                cases h44 : decide ((k : Int) < rn26) with
                | false =>
                  try rw [h44] at F
                  have h44p : ¬ ((k : Int) < rn26) := of_decide_eq_false h44
                  obtain rfl : rn26 = k := by omega
                  refine wp_cond_false (F.ev 220 (.bool false) (by kernel_rfl)) ?_
                  refine wp_exit ?_
                  refine X.thenX ?_
                  refine X.thenX ?_
                  refine X.blockX ?_
                  refine X.thenN ?_
                  refine wp_seq ?_
                  refine wp_region_lit ?_
                  refine X.pval F (X.w0 rfl) rfl (X.move rfl (F.ev 9 (.slice ra14 rn14 rc14) (by kernel_rfl))) ?_
                  clear F ac
                  intro ac F
                  refine X.pval F (X.w0 rfl) rfl (X.len1 Try.underlying22 rfl (F.ev 239 (.slice ra14 rn14 rc14) (by kernel_rfl))) ?_
                  clear F ac
                  intro ac F
                  refine X.pval F (X.w0 rfl) rfl (X.field rfl (F.ev 5 (.pointer (some ⟨w4.heap.size, 0, none⟩)) (by kernel_rfl)) (X.fld Try.underlying41 rfl (Try.siz26 _) rfl rfl)) ?_
                  clear F ac
                  intro ac F
                  refine X.pval F (X.w0 rfl) rfl (X.load rfl (F.ev 241 (.pointer (some ⟨w4.heap.size, 4, none⟩)) (by kernel_rfl)) (X.ld1 (Try.agg26 _) (hC.at 8 rfl))) ?_
                  clear F ac
                  intro ac F
                  refine X.pval F (X.w0 rfl) rfl (X.len1 Try.underlying26 rfl (F.ev 242 (.slice ma mn mc) (by kernel_rfl))) ?_
                  clear F ac
                  intro ac F
                  refine X.pval F (X.w0 rfl) rfl (X.binop rfl (F.ev 240 (.int .i64 rn14) (by kernel_rfl)) (F.ev 243 (.int .i64 mn) (by kernel_rfl)) (X.eqlI Try.underlying3 rfl)) ?_
                  clear F ac
                  intro ac F
                  refine X.pval F (X.w0 rfl) rfl (X.move rfl (F.ev 244 (.bool ((rn14 : Int) == mn)) (by kernel_rfl))) ?_
                  clear F ac
                  intro ac F
                  have h46 : ((rn14 : Int) == mn) = true := by simp; have := HMN.out; omega
                  try rw [h46] at F
                  refine X.pcall F (X.w1 rfl (F.yl (j := 6) (d := 245) (b := true) rfl (by kernel_rfl))) rfl (X.enter (F := 16) rfl (X.kc (.func (.func 16) #[] #[]) rfl) rfl (enters_of Try.func16 (by kernel_rfl) rfl _)) (look_any w43) ?_
                  clear F ac
                  rintro e w47 ⟨rfl, g⟩
                  refine ⟨_, rfl, ?_⟩
                  intro ac F
                  replace G := G.trans g
                  replace hC := hC.gr g
                  replace GB_ := GB_.trans g
                  replace GBB_ := GBB_.trans g
                  replace GBBB_ := GBBB_.trans g
                  replace hf := hf.gr g
                  replace hx := hx.gr g
                  replace hy := hy.gr g
                  replace hm := hm.gr g
                  replace hR9 := hR9.gr g
                  replace hR14 := hR14.gr g
                  replace hla := hla.gr g
                  replace hO := hO.gr g
                  replace hfu := hfu.gr g
                  replace hR21 := hR21.gr g
                  replace hR26 := hR26.gr g
                  replace hei := hei.gr g
                  clear g
                  refine X.pval F (X.w0 rfl) rfl (X.pickT rfl (F.ev 245 (.bool true) (by kernel_rfl)) (F.ev 246 (.bool true) (by kernel_rfl))) ?_
                  clear F ac
                  intro ac F
                  refine X.pval F (X.w0 rfl) rfl (X.assign rfl (F.ev 247 (.bool true) (by kernel_rfl))) ?_
                  clear F ac
                  intro ac F
                  refine wpList_nil ?_
                  replace F : Fr ac 248 [(0, .agg #[.slice ta tn tc, .slice ca cn cc]), (1, .agg #[.slice a n c, .slice b m d]), (2, .agg #[.slice fa fn fc, .slice pa pn pc, .int .i64 bu, .int .i64 dn, .slice ma mn mc]), (3, .pointer (some ⟨w.heap.size, 0, none⟩)), (4, .pointer (some ⟨w3.heap.size, 0, none⟩)), (5, .pointer (some ⟨w4.heap.size, 0, none⟩)), (6, .bool true), (7, .slice ra9 rn9 rc9), (8, .int .i64 0), (9, .slice ra14 rn14 rc14), (10, .slice la n lc), (11, .int .i64 A), (12, .int .i64 rn14), (17, .slice va rn9 vc), (18, .int .i64 rn9), (19, .slice ra21 rn21 rc21), (20, .slice (some ed) rn26 rc26), (21, .int .i64 rn26), (32, .bool false), (51, .bool false), (66, .bool false), (77, .bool false), (149, .bool false), (182, .bool false), (216, .bool false), (220, .bool false)] := F.sub _ (by kernel_rfl)
                  refine X.thenN ?_
                  refine wp_ret ?_
                  exact X.ret1 F rfl (by kernel_rfl) ⟨rfl, G⟩
                | true =>
                  try rw [h44] at F
                  have h44p : ((k : Int) < rn26) := of_decide_eq_true h44
                  have hlt : k < rn26 := by omega
                  have hlb := hR26.lt
                  obtain ⟨sd, qa, qn, qc, hsa, hsb, hsc, hqi⟩ := hR26.at hlt
                  injection hsa with hsa
                  subst hsa
                  have hbl : k < A := by have := hR26.len; rw [bk_len] at this; omega
                  rw [bk_at _ _ _ _ hbl] at hqi
                  have hBl : A - 1 - k ≤ Q.length := by have := HLN.out; omega
                  have HSS : Hid (StOk f (pAt xs Q (A - 1 - k))) := Lib.hid (HPL.out.at hBl)
                  have HSW : Hid (worksB f (pAt xs Q (A - 1 - k)) = true) := Lib.hid (HPL.out.works HWX.out hBl)
                  generalize pAt xs Q (A - 1 - k) = S at *
                  replace hC : RCells w43 [(⟨w.heap.size, 0, none⟩, .slice ta tn tc), (⟨w.heap.size, 1, none⟩, .slice ca cn cc), (⟨w3.heap.size, 0, none⟩, .slice a n c), (⟨w3.heap.size, 1, none⟩, .slice b m d), (⟨w4.heap.size, 0, none⟩, .slice fa fn fc), (⟨w4.heap.size, 1, none⟩, .slice pa pn pc), (⟨w4.heap.size, 2, none⟩, .int .i64 bu), (⟨w4.heap.size, 3, none⟩, .int .i64 dn), (⟨w4.heap.size, 4, none⟩, .slice ma mn mc), (ed.add ((A : Int) - 1).toNat, .slice ea en ec), (ed.add k, .slice qa qn qc)] := hC.append ((RCells.cons hsc (RCells.nil _)))
                  clear hsc
                  refine wp_cond_true (F.ev 220 (.bool true) (by kernel_rfl)) ?_
                  refine wp_skip ?_
                  refine X.thenN ?_
                  refine wp_seq ?_
                  refine wp_block ?_
                  refine wp_seq ?_
                  refine region_x F [some (.agg #[.slice ta tn tc, .slice ca cn cc]), some (.slice (some ed) rn26 rc26), some (.int .i64 k), some (.pointer (some (ed.add k))), some (.slice qa qn qc), some (.tuple #[.int .i64 (wI f S), .bool (wB f S), .int .i64 (wE f S)]), some (.tuple #[.int .i64 (wI f S), .bool (wB f S), .int .i64 (wE f S)]), some (.int .i64 (wI f S)), some (.bool (wB f S)), some (.int .i64 (wE f S)), some (.int .i64 (wI f S)), some (.bool (wB f S)), some (.int .i64 (wE f S))] (X.RG w43) rfl ⟨by kernel_rfl, of_decide_eq_true (by kernel_rfl), by kernel_rfl, by kernel_rfl, by kernel_rfl⟩ (fun _ => ⟨Gr.refl _, Gr.drew _⟩) ⟨?_, ?_, ?_, ?_, ?_, ?_, ?_, ?_, ?_, ?_, ?_, ?_, ?_, trivial⟩ ?_
                  · intro ac done u W Sx g
                    replace g : Gr w43 W := g
                    exact X.val (X.w0 rfl) rfl (X.load rfl (Sx.ev 3 (.pointer (some ⟨w.heap.size, 0, none⟩)) (by kernel_rfl)) (X.ldN (Try.agg25 _) (Try.siz25 _) (X.c2 ((hC.gr g).at 0 rfl) ((hC.gr g).at 1 rfl)))) g
                  · intro ac done u W Sx g
                    replace g : Gr w43 W := g
                    exact X.val (X.w0 rfl) rfl (X.move rfl (Sx.ev 20 (.slice (some ed) rn26 rc26) (by kernel_rfl))) g
                  · intro ac done u W Sx g
                    replace g : Gr w43 W := g
                    exact X.val (X.w0 rfl) rfl (X.move rfl (Sx.ev 21 (.int .i64 k) (by kernel_rfl))) g
                  · intro ac done u W Sx g
                    replace g : Gr w43 W := g
                    exact X.val (X.w0 rfl) rfl (X.index rfl (Sx.ev 225 (.slice (some ed) rn26 rc26) (by kernel_rfl)) (Sx.ev 226 (.int .i64 k) (by kernel_rfl)) (X.idx Try.underlying22 (Try.siz26 _) (by omega) (by omega) (by rw [Nat.mul_one]; try rw [hA2]))) g
                  · intro ac done u W Sx g
                    replace g : Gr w43 W := g
                    exact X.val (X.w0 rfl) rfl (X.load rfl (Sx.ev 227 (.pointer (some (ed.add k))) (by kernel_rfl)) (X.ld1 (Try.agg26 _) ((hC.gr g).at 10 rfl))) g
                  · intro ac done u W Sx g
                    replace g : Gr w43 W := g
                    refine X.call (X.w0 rfl) (X.enter (F := 38) rfl (X.kc (.func (.func 38) #[] #[]) rfl) (X.a2 (Sx.ev 224 (.agg #[.slice ta tn tc, .slice ca cn cc]) (by kernel_rfl)) (Sx.ev 228 (.slice qa qn qc) (by kernel_rfl))) (enters_of Try.func38 (by kernel_rfl) rfl _)) (Works_any ta ca qa tn tc cn cc qn qc f S W (hf.gr g) (hqi.gr g)) ?_
                    rintro e W' ⟨rfl, g2⟩
                    exact ⟨_, rfl, X.kn rfl, g.trans g2⟩
                  · intro ac done u W Sx g
                    replace g : Gr w43 W := g
                    exact X.val (X.w0 rfl) rfl (X.move rfl (Sx.ev 229 (.tuple #[.int .i64 (wI f S), .bool (wB f S), .int .i64 (wE f S)]) (by kernel_rfl))) g
                  · intro ac done u W Sx g
                    replace g : Gr w43 W := g
                    exact X.val (X.w0 rfl) rfl (X.extract rfl (Sx.ev 223 (.tuple #[.int .i64 (wI f S), .bool (wB f S), .int .i64 (wE f S)]) (by kernel_rfl)) rfl) g
                  · intro ac done u W Sx g
                    replace g : Gr w43 W := g
                    exact X.val (X.w0 rfl) rfl (X.extract rfl (Sx.ev 223 (.tuple #[.int .i64 (wI f S), .bool (wB f S), .int .i64 (wE f S)]) (by kernel_rfl)) rfl) g
                  · intro ac done u W Sx g
                    replace g : Gr w43 W := g
                    exact X.val (X.w0 rfl) rfl (X.extract rfl (Sx.ev 223 (.tuple #[.int .i64 (wI f S), .bool (wB f S), .int .i64 (wE f S)]) (by kernel_rfl)) rfl) g
                  · intro ac done u W Sx g
                    replace g : Gr w43 W := g
                    exact X.val (X.w0 rfl) rfl (X.assign rfl (Sx.ev 230 (.int .i64 (wI f S)) (by kernel_rfl))) g
                  · intro ac done u W Sx g
                    replace g : Gr w43 W := g
                    exact X.val (X.w0 rfl) rfl (X.assign rfl (Sx.ev 231 (.bool (wB f S)) (by kernel_rfl))) g
                  · intro ac done u W Sx g
                    replace g : Gr w43 W := g
                    exact X.val (X.w0 rfl) rfl (X.assign rfl (Sx.ev 232 (.int .i64 (wE f S)) (by kernel_rfl))) g
                  intro ac u w48 hs hd hl ho g
                  replace g : Gr w43 w48 := g
                  replace F : Fr ac 248 [(0, .agg #[.slice ta tn tc, .slice ca cn cc]), (1, .agg #[.slice a n c, .slice b m d]), (2, .agg #[.slice fa fn fc, .slice pa pn pc, .int .i64 bu, .int .i64 dn, .slice ma mn mc]), (3, .pointer (some ⟨w.heap.size, 0, none⟩)), (4, .pointer (some ⟨w3.heap.size, 0, none⟩)), (5, .pointer (some ⟨w4.heap.size, 0, none⟩)), (7, .slice ra9 rn9 rc9), (8, .int .i64 0), (9, .slice ra14 rn14 rc14), (10, .slice la n lc), (11, .int .i64 A), (12, .int .i64 rn14), (17, .slice va rn9 vc), (18, .int .i64 rn9), (19, .slice ra21 rn21 rc21), (20, .slice (some ed) rn26 rc26), (21, .int .i64 k), (23, .bool (wB f S)), (24, .int .i64 (wE f S)), (32, .bool false), (51, .bool false), (66, .bool false), (77, .bool false), (149, .bool false), (182, .bool false), (216, .bool false), (220, .bool true)] := X.fr hs hd hl _ (by kernel_rfl)
                  clear hs hd hl ho
                  replace G := G.trans g
                  replace hC := hC.gr g
                  replace GB_ := GB_.trans g
                  replace GBB_ := GBB_.trans g
                  replace GBBB_ := GBBB_.trans g
                  replace hf := hf.gr g
                  replace hx := hx.gr g
                  replace hy := hy.gr g
                  replace hm := hm.gr g
                  replace hR9 := hR9.gr g
                  replace hR14 := hR14.gr g
                  replace hla := hla.gr g
                  replace hO := hO.gr g
                  replace hfu := hfu.gr g
                  replace hR21 := hR21.gr g
                  replace hR26 := hR26.gr g
                  replace hei := hei.gr g
                  replace hqi := hqi.gr g
                  clear g
                  refine X.thenN ?_
                  refine wp_seq ?_
                  refine wp_region_lit ?_
                  refine X.pval F (X.w0 rfl) rfl (X.move rfl (F.ev 24 (.int .i64 (wE f S)) (by kernel_rfl))) ?_
                  clear F ac
                  intro ac F
                  refine X.pval F (X.w0 rfl) rfl (X.binop rfl (F.ev 233 (.int .i64 (wE f S)) (by kernel_rfl)) (X.kc (.int .i64 0) rfl) (X.neqI Try.underlying31 rfl)) ?_
                  clear F ac
                  intro ac F
                  refine X.pval F (X.w0 rfl) rfl (X.move rfl (F.ev 234 (.bool ((wE f S : Int) != 0)) (by kernel_rfl))) ?_
                  clear F ac
                  intro ac F
                  have h50 : ((wE f S : Int) != 0) = false := by rw [wE_zero HCHK.out HSS.out]; rfl
                  try rw [h50] at F
                  refine X.pval F (X.w1 rfl (F.yl (j := 2) (d := 235) (b := false) rfl (by kernel_rfl))) rfl (X.move rfl (F.ev 23 (.bool (wB f S)) (by kernel_rfl))) ?_
                  clear F ac
                  intro ac F
                  refine X.pval F (X.w1 rfl (F.yl (j := 2) (d := 235) (b := false) rfl (by kernel_rfl))) rfl (X.notB rfl (F.ev 236 (.bool (wB f S)) (by kernel_rfl)) rfl) ?_
                  clear F ac
                  intro ac F
                  refine X.pval F (X.w0 rfl) rfl (X.pickF rfl (F.ev 235 (.bool false) (by kernel_rfl)) (F.ev 237 (.bool (!(wB f S))) (by kernel_rfl))) ?_
                  clear F ac
                  intro ac F
                  refine wpList_nil ?_
                  replace F : Fr ac 248 [(0, .agg #[.slice ta tn tc, .slice ca cn cc]), (1, .agg #[.slice a n c, .slice b m d]), (2, .agg #[.slice fa fn fc, .slice pa pn pc, .int .i64 bu, .int .i64 dn, .slice ma mn mc]), (3, .pointer (some ⟨w.heap.size, 0, none⟩)), (4, .pointer (some ⟨w3.heap.size, 0, none⟩)), (5, .pointer (some ⟨w4.heap.size, 0, none⟩)), (7, .slice ra9 rn9 rc9), (8, .int .i64 0), (9, .slice ra14 rn14 rc14), (10, .slice la n lc), (11, .int .i64 A), (12, .int .i64 rn14), (17, .slice va rn9 vc), (18, .int .i64 rn9), (19, .slice ra21 rn21 rc21), (20, .slice (some ed) rn26 rc26), (21, .int .i64 k), (23, .bool (wB f S)), (24, .int .i64 (wE f S)), (32, .bool false), (51, .bool false), (66, .bool false), (77, .bool false), (149, .bool false), (182, .bool false), (216, .bool false), (220, .bool true), (238, .bool (!(wB f S)))] := F.sub _ (by kernel_rfl)
                  refine X.thenN ?_
                  have h52 : wB f S = true := wB_true HCHK.out HSS.out HSW.out
                  try rw [h52] at F
                  refine wp_cond_false (F.ev 238 (.bool false) (by kernel_rfl)) ?_
                  refine wp_skip ?_
                  refine X.blockN ?_
                  refine X.thenN ?_
                  refine wp_region_lit ?_
                  refine X.pval F (X.w0 rfl) rfl (X.move rfl (F.ev 21 (.int .i64 k) (by kernel_rfl))) ?_
                  clear F ac
                  intro ac F
                  refine X.pval F (X.w0 rfl) rfl (X.binop rfl (F.ev 221 (.int .i64 k) (by kernel_rfl)) (X.kc (.int .i64 1) rfl) (X.addI Try.underlying3 rfl (by omega) (by omega))) ?_
                  clear F ac
                  intro ac F
                  refine X.pval F (X.w0 rfl) rfl (X.assign rfl (F.ev 222 (.int .i64 ((k : Int) + 1)) (by kernel_rfl))) ?_
                  clear F ac
                  intro ac F
                  refine wpList_nil ?_
                  replace F : Fr ac 248 [(0, .agg #[.slice ta tn tc, .slice ca cn cc]), (1, .agg #[.slice a n c, .slice b m d]), (2, .agg #[.slice fa fn fc, .slice pa pn pc, .int .i64 bu, .int .i64 dn, .slice ma mn mc]), (3, .pointer (some ⟨w.heap.size, 0, none⟩)), (4, .pointer (some ⟨w3.heap.size, 0, none⟩)), (5, .pointer (some ⟨w4.heap.size, 0, none⟩)), (7, .slice ra9 rn9 rc9), (8, .int .i64 0), (9, .slice ra14 rn14 rc14), (10, .slice la n lc), (11, .int .i64 A), (12, .int .i64 rn14), (17, .slice va rn9 vc), (18, .int .i64 rn9), (19, .slice ra21 rn21 rc21), (20, .slice (some ed) rn26 rc26), (21, .int .i64 ((k : Int) + 1)), (23, .bool true), (24, .int .i64 (wE f S)), (32, .bool false), (51, .bool false), (66, .bool false), (77, .bool false), (149, .bool false), (182, .bool false), (216, .bool false), (220, .bool true), (238, .bool false)] := F.sub _ (by kernel_rfl)
                  refine X.thenN ?_
                  refine ⟨_, ?_, k + 1, rfl, GBBB_, by omega, F.sub _ (by kernel_rfl)⟩
                  omega
            | true =>
              try rw [h20] at F
              have h20p : ((k : Int) < rn9) := of_decide_eq_true h20
              refine wp_cond_true (F.ev 149 (.bool true) (by kernel_rfl)) ?_
              refine wp_skip ?_
              refine X.thenN ?_
              refine wp_seq ?_
              refine wp_block ?_
              refine wp_region_lit ?_
              refine X.pval F (X.w0 rfl) rfl (X.move rfl (F.ev 17 (vv) (by kernel_rfl))) ?_
              clear F ac
              intro ac F
              refine X.pval F (X.w0 rfl) rfl (X.field rfl (F.ev 5 (.pointer (some ⟨w4.heap.size, 0, none⟩)) (by kernel_rfl)) (X.fld Try.underlying41 rfl (Try.siz3 _) rfl rfl)) ?_
              clear F ac
              intro ac F
              refine X.pval F (X.w0 rfl) rfl (X.load rfl (F.ev 153 (.pointer (some ⟨w4.heap.size, 2, none⟩)) (by kernel_rfl)) (X.ld1 (Try.agg3 _) (hC.at 6 rfl))) ?_
              clear F ac
              intro ac F
              refine X.pval F (X.w0 rfl) rfl (X.bs rfl (X.b1 (F.ev 154 (.int .i64 bu) (by kernel_rfl))) (Try.bs26a _ _)) ?_
              clear F ac
              intro ac F
              have g := Gr.alloc w19 (.cells #[.int .i64 bu] 3)
              have hb := heap_alloc_new w19 (.cells #[.int .i64 bu] 3)
              have hbl : w19.heap.size < (w19.alloc (.cells #[.int .i64 bu] 3)).heap.size := by simp
              generalize w19.alloc (.cells #[.int .i64 bu] 3) = w53 at *
              replace G := G.trans g
              replace hC := hC.gr g
              replace GB_ := GB_.trans g
              replace GBB_ := GBB_.trans g
              replace hf := hf.gr g
              replace hx := hx.gr g
              replace hy := hy.gr g
              replace hm := hm.gr g
              replace hR9 := hR9.gr g
              replace hR14 := hR14.gr g
              replace hla := hla.gr g
              replace hO := hO.gr g
              have hbk := hb
              clear g hb hbl
              refine wpList_pushI rfl rfl (F.ev 152 (vv) (by kernel_rfl)) (F.ev 155 (.slice (some ⟨w19.heap.size, 0, none⟩) 1 1) (by kernel_rfl)) hbk hO GBB_ (by rw [List.length_replicate]; omega) ?_
              intro v' w54 hO' GB'
              refine X.pput F rfl ?_
              clear F ac
              intro ac F
              refine X.pval F (X.w0 rfl) rfl (X.assign rfl (F.ev 156 (v') (by kernel_rfl))) ?_
              clear F ac
              intro ac F
              refine wpList_nil ?_
              replace F : Fr ac 248 [(0, .agg #[.slice ta tn tc, .slice ca cn cc]), (1, .agg #[.slice a n c, .slice b m d]), (2, .agg #[.slice fa fn fc, .slice pa pn pc, .int .i64 bu, .int .i64 dn, .slice ma mn mc]), (3, .pointer (some ⟨w.heap.size, 0, none⟩)), (4, .pointer (some ⟨w3.heap.size, 0, none⟩)), (5, .pointer (some ⟨w4.heap.size, 0, none⟩)), (7, .slice ra9 rn9 rc9), (8, .int .i64 (intE f xs Q bu ms)), (9, .slice ra14 rn14 rc14), (10, .slice la n lc), (11, .int .i64 A), (12, .int .i64 rn14), (17, v'), (18, .int .i64 k), (32, .bool false), (51, .bool false), (66, .bool false), (77, .bool false), (149, .bool true)] := F.sub _ (by kernel_rfl)
              refine X.blockN ?_
              refine X.thenN ?_
              refine wp_region_lit ?_
              refine X.pval F (X.w0 rfl) rfl (X.move rfl (F.ev 18 (.int .i64 k) (by kernel_rfl))) ?_
              clear F ac
              intro ac F
              refine X.pval F (X.w0 rfl) rfl (X.binop rfl (F.ev 150 (.int .i64 k) (by kernel_rfl)) (X.kc (.int .i64 1) rfl) (X.addI Try.underlying3 rfl (by omega) (by omega))) ?_
              clear F ac
              intro ac F
              refine X.pval F (X.w0 rfl) rfl (X.assign rfl (F.ev 151 (.int .i64 ((k : Int) + 1)) (by kernel_rfl))) ?_
              clear F ac
              intro ac F
              refine wpList_nil ?_
              replace F : Fr ac 248 [(0, .agg #[.slice ta tn tc, .slice ca cn cc]), (1, .agg #[.slice a n c, .slice b m d]), (2, .agg #[.slice fa fn fc, .slice pa pn pc, .int .i64 bu, .int .i64 dn, .slice ma mn mc]), (3, .pointer (some ⟨w.heap.size, 0, none⟩)), (4, .pointer (some ⟨w3.heap.size, 0, none⟩)), (5, .pointer (some ⟨w4.heap.size, 0, none⟩)), (7, .slice ra9 rn9 rc9), (8, .int .i64 (intE f xs Q bu ms)), (9, .slice ra14 rn14 rc14), (10, .slice la n lc), (11, .int .i64 A), (12, .int .i64 rn14), (17, v'), (18, .int .i64 ((k : Int) + 1)), (32, .bool false), (51, .bool false), (66, .bool false), (77, .bool false), (149, .bool true)] := F.sub _ (by kernel_rfl)
              refine X.thenN ?_
              refine ⟨_, ?_, k + 1, v', rfl, GB', by omega, by rw [List.replicate_succ']; exact hO', F.sub _ (by kernel_rfl)⟩
              omega
          | true =>
            try rw [h18] at F
            have h18p : ((k : Int) < rn14) := of_decide_eq_true h18
            have hlt : k < rn14 := by omega
            obtain ⟨sd, qa, qn, qc, hsa, hsb, hsc, hqi⟩ := hR14.at hlt
            subst hsa
            obtain ⟨B, hB1, hB2, hB3⟩ := pos_step (by rw [HML.out, ← HMN.out]; exact hlt) HP.out
            rw [hB1] at hqi
            have HP2 := Lib.hid hB2
            clear hB1 hB2
            have hBl : B ≤ rn9 := by have := HLN.out; omega
            have HSS : Hid (StOk f (pAt xs Q B)) := Lib.hid (HPL.out.at (by rw [HLN.out]; exact hBl))
            have HSW : Hid (worksB f (pAt xs Q B) = true) := Lib.hid (HPL.out.works HWX.out (by rw [HLN.out]; exact hBl))
            have hqn : qn = n := by rw [← hqi.len, HSS.out.len, HNX.out]
            subst hqn
            obtain ⟨S, hS⟩ : ∃ S, S = pAt xs Q B := ⟨_, rfl⟩
            rw [← hS] at hqi HSS HSW
            have HS := Lib.hid hS
            clear hS
            replace hC : RCells w17 [(⟨w.heap.size, 0, none⟩, .slice ta tn tc), (⟨w.heap.size, 1, none⟩, .slice ca cn cc), (⟨w3.heap.size, 0, none⟩, .slice a qn c), (⟨w3.heap.size, 1, none⟩, .slice b m d), (⟨w4.heap.size, 0, none⟩, .slice fa fn fc), (⟨w4.heap.size, 1, none⟩, .slice pa pn pc), (⟨w4.heap.size, 2, none⟩, .int .i64 bu), (⟨w4.heap.size, 3, none⟩, .int .i64 dn), (⟨w4.heap.size, 4, none⟩, .slice ma mn mc), (sd.add k, .slice qa qn qc)] := hC.append ((RCells.cons hsc (RCells.nil _)))
            clear hsc
            refine wp_cond_true (F.ev 77 (.bool true) (by kernel_rfl)) ?_
            refine wp_skip ?_
            refine X.thenN ?_
            refine wp_seq ?_
            refine wp_block ?_
            refine wp_seq ?_
            refine region_x F [some (.agg #[.slice ta tn tc, .slice ca cn cc]), some (.slice (some sd) rn14 rc14), some (.int .i64 k), some (.pointer (some (sd.add k))), some (.slice qa qn qc), some (.tuple #[.int .i64 (wI f S), .bool (wB f S), .int .i64 (wE f S)]), some (.tuple #[.int .i64 (wI f S), .bool (wB f S), .int .i64 (wE f S)]), some (.int .i64 (wI f S)), some (.bool (wB f S)), some (.int .i64 (wE f S)), some (.int .i64 (wI f S)), some (.bool (wB f S)), some (.int .i64 (wE f S))] (X.RG w17) rfl ⟨by kernel_rfl, of_decide_eq_true (by kernel_rfl), by kernel_rfl, by kernel_rfl, by kernel_rfl⟩ (fun _ => ⟨Gr.refl _, Gr.drew _⟩) ⟨?_, ?_, ?_, ?_, ?_, ?_, ?_, ?_, ?_, ?_, ?_, ?_, ?_, trivial⟩ ?_
            · intro ac done u W Sx g
              replace g : Gr w17 W := g
              exact X.val (X.w0 rfl) rfl (X.load rfl (Sx.ev 3 (.pointer (some ⟨w.heap.size, 0, none⟩)) (by kernel_rfl)) (X.ldN (Try.agg25 _) (Try.siz25 _) (X.c2 ((hC.gr g).at 0 rfl) ((hC.gr g).at 1 rfl)))) g
            · intro ac done u W Sx g
              replace g : Gr w17 W := g
              exact X.val (X.w0 rfl) rfl (X.move rfl (Sx.ev 9 (.slice (some sd) rn14 rc14) (by kernel_rfl))) g
            · intro ac done u W Sx g
              replace g : Gr w17 W := g
              exact X.val (X.w0 rfl) rfl (X.move rfl (Sx.ev 12 (.int .i64 k) (by kernel_rfl))) g
            · intro ac done u W Sx g
              replace g : Gr w17 W := g
              exact X.val (X.w0 rfl) rfl (X.index rfl (Sx.ev 82 (.slice (some sd) rn14 rc14) (by kernel_rfl)) (Sx.ev 83 (.int .i64 k) (by kernel_rfl)) (X.idx Try.underlying22 (Try.siz26 _) (by omega) (by omega) (by rw [Nat.mul_one]; try rw [hA2]))) g
            · intro ac done u W Sx g
              replace g : Gr w17 W := g
              exact X.val (X.w0 rfl) rfl (X.load rfl (Sx.ev 84 (.pointer (some (sd.add k))) (by kernel_rfl)) (X.ld1 (Try.agg26 _) ((hC.gr g).at 9 rfl))) g
            · intro ac done u W Sx g
              replace g : Gr w17 W := g
              refine X.call (X.w0 rfl) (X.enter (F := 38) rfl (X.kc (.func (.func 38) #[] #[]) rfl) (X.a2 (Sx.ev 81 (.agg #[.slice ta tn tc, .slice ca cn cc]) (by kernel_rfl)) (Sx.ev 85 (.slice qa qn qc) (by kernel_rfl))) (enters_of Try.func38 (by kernel_rfl) rfl _)) (Works_any ta ca qa tn tc cn cc qn qc f S W (hf.gr g) (hqi.gr g)) ?_
              rintro e W' ⟨rfl, g2⟩
              exact ⟨_, rfl, X.kn rfl, g.trans g2⟩
            · intro ac done u W Sx g
              replace g : Gr w17 W := g
              exact X.val (X.w0 rfl) rfl (X.move rfl (Sx.ev 86 (.tuple #[.int .i64 (wI f S), .bool (wB f S), .int .i64 (wE f S)]) (by kernel_rfl))) g
            · intro ac done u W Sx g
              replace g : Gr w17 W := g
              exact X.val (X.w0 rfl) rfl (X.extract rfl (Sx.ev 80 (.tuple #[.int .i64 (wI f S), .bool (wB f S), .int .i64 (wE f S)]) (by kernel_rfl)) rfl) g
            · intro ac done u W Sx g
              replace g : Gr w17 W := g
              exact X.val (X.w0 rfl) rfl (X.extract rfl (Sx.ev 80 (.tuple #[.int .i64 (wI f S), .bool (wB f S), .int .i64 (wE f S)]) (by kernel_rfl)) rfl) g
            · intro ac done u W Sx g
              replace g : Gr w17 W := g
              exact X.val (X.w0 rfl) rfl (X.extract rfl (Sx.ev 80 (.tuple #[.int .i64 (wI f S), .bool (wB f S), .int .i64 (wE f S)]) (by kernel_rfl)) rfl) g
            · intro ac done u W Sx g
              replace g : Gr w17 W := g
              exact X.val (X.w0 rfl) rfl (X.assign rfl (Sx.ev 87 (.int .i64 (wI f S)) (by kernel_rfl))) g
            · intro ac done u W Sx g
              replace g : Gr w17 W := g
              exact X.val (X.w0 rfl) rfl (X.assign rfl (Sx.ev 88 (.bool (wB f S)) (by kernel_rfl))) g
            · intro ac done u W Sx g
              replace g : Gr w17 W := g
              exact X.val (X.w0 rfl) rfl (X.assign rfl (Sx.ev 89 (.int .i64 (wE f S)) (by kernel_rfl))) g
            intro ac u w55 hs hd hl ho g
            replace g : Gr w17 w55 := g
            replace F : Fr ac 248 [(0, .agg #[.slice ta tn tc, .slice ca cn cc]), (1, .agg #[.slice a qn c, .slice b m d]), (2, .agg #[.slice fa fn fc, .slice pa pn pc, .int .i64 bu, .int .i64 dn, .slice ma mn mc]), (3, .pointer (some ⟨w.heap.size, 0, none⟩)), (4, .pointer (some ⟨w3.heap.size, 0, none⟩)), (5, .pointer (some ⟨w4.heap.size, 0, none⟩)), (7, .slice ra9 rn9 rc9), (8, .int .i64 (intE f xs Q bu ms)), (9, .slice (some sd) rn14 rc14), (10, .slice la qn lc), (11, .int .i64 A), (12, .int .i64 k), (14, .bool (wB f S)), (15, .int .i64 (wE f S)), (32, .bool false), (51, .bool false), (66, .bool false), (77, .bool true)] := X.fr hs hd hl _ (by kernel_rfl)
            clear hs hd hl ho
            replace G := G.trans g
            replace hC := hC.gr g
            replace GB_ := GB_.trans g
            replace hf := hf.gr g
            replace hx := hx.gr g
            replace hy := hy.gr g
            replace hm := hm.gr g
            replace hR9 := hR9.gr g
            replace hR14 := hR14.gr g
            replace hla := hla.gr g
            replace hqi := hqi.gr g
            clear g
            refine X.thenN ?_
            refine wp_seq ?_
            refine wp_seq ?_
            refine wp_region_lit ?_
            refine X.pval F (X.w0 rfl) rfl (X.move rfl (F.ev 15 (.int .i64 (wE f S)) (by kernel_rfl))) ?_
            clear F ac
            intro ac F
            refine X.pval F (X.w0 rfl) rfl (X.binop rfl (F.ev 90 (.int .i64 (wE f S)) (by kernel_rfl)) (X.kc (.int .i64 0) rfl) (X.neqI Try.underlying31 rfl)) ?_
            clear F ac
            intro ac F
            refine X.pval F (X.w0 rfl) rfl (X.move rfl (F.ev 91 (.bool ((wE f S : Int) != 0)) (by kernel_rfl))) ?_
            clear F ac
            intro ac F
            have h57 : ((wE f S : Int) != 0) = false := by rw [wE_zero HCHK.out HSS.out]; rfl
            try rw [h57] at F
            refine X.pval F (X.w1 rfl (F.yl (j := 2) (d := 92) (b := false) rfl (by kernel_rfl))) rfl (X.move rfl (F.ev 14 (.bool (wB f S)) (by kernel_rfl))) ?_
            clear F ac
            intro ac F
            refine X.pval F (X.w1 rfl (F.yl (j := 2) (d := 92) (b := false) rfl (by kernel_rfl))) rfl (X.notB rfl (F.ev 93 (.bool (wB f S)) (by kernel_rfl)) rfl) ?_
            clear F ac
            intro ac F
            refine X.pval F (X.w0 rfl) rfl (X.pickF rfl (F.ev 92 (.bool false) (by kernel_rfl)) (F.ev 94 (.bool (!(wB f S))) (by kernel_rfl))) ?_
            clear F ac
            intro ac F
            refine wpList_nil ?_
            replace F : Fr ac 248 [(0, .agg #[.slice ta tn tc, .slice ca cn cc]), (1, .agg #[.slice a qn c, .slice b m d]), (2, .agg #[.slice fa fn fc, .slice pa pn pc, .int .i64 bu, .int .i64 dn, .slice ma mn mc]), (3, .pointer (some ⟨w.heap.size, 0, none⟩)), (4, .pointer (some ⟨w3.heap.size, 0, none⟩)), (5, .pointer (some ⟨w4.heap.size, 0, none⟩)), (7, .slice ra9 rn9 rc9), (8, .int .i64 (intE f xs Q bu ms)), (9, .slice (some sd) rn14 rc14), (10, .slice la qn lc), (11, .int .i64 A), (12, .int .i64 k), (14, .bool (wB f S)), (15, .int .i64 (wE f S)), (32, .bool false), (51, .bool false), (66, .bool false), (77, .bool true), (95, .bool (!(wB f S)))] := F.sub _ (by kernel_rfl)
            refine X.thenN ?_
            have h59 : wB f S = true := wB_true HCHK.out HSS.out HSW.out
            try rw [h59] at F
            refine wp_cond_false (F.ev 95 (.bool false) (by kernel_rfl)) ?_
            refine wp_skip ?_
            refine X.thenN ?_
            refine wp_seq ?_
            refine wp_seq ?_
            refine wp_region_lit ?_
            refine X.pval F (X.w0 rfl) rfl (X.move rfl (F.ev 9 (.slice (some sd) rn14 rc14) (by kernel_rfl))) ?_
            clear F ac
            intro ac F
            refine X.pval F (X.w0 rfl) rfl (X.move rfl (F.ev 12 (.int .i64 k) (by kernel_rfl))) ?_
            clear F ac
            intro ac F
            refine X.pval F (X.w0 rfl) rfl (X.index rfl (F.ev 96 (.slice (some sd) rn14 rc14) (by kernel_rfl)) (F.ev 97 (.int .i64 k) (by kernel_rfl)) (X.idx Try.underlying22 (Try.siz26 _) (by omega) (by omega) (by rw [Nat.mul_one]; try rw [hA2]))) ?_
            clear F ac
            intro ac F
            refine X.pval F (X.w0 rfl) rfl (X.load rfl (F.ev 98 (.pointer (some (sd.add k))) (by kernel_rfl)) (X.ld1 (Try.agg26 _) (hC.at 9 rfl))) ?_
            clear F ac
            intro ac F
            refine X.pval F (X.w0 rfl) rfl (X.move rfl (F.ev 10 (.slice la qn lc) (by kernel_rfl))) ?_
            clear F ac
            intro ac F
            refine X.pcall F (X.w0 rfl) rfl (X.enter (F := 22) rfl (X.kc (.func (.func 22) #[] #[]) rfl) (X.a2 (F.ev 99 (.slice qa qn qc) (by kernel_rfl)) (F.ev 100 (.slice la qn lc) (by kernel_rfl))) (enters_of Try.func22 (by kernel_rfl) rfl _)) (sameInts_any qa la qn qc qn lc S C w55 hqi hla) ?_
            clear F ac
            rintro e w60 ⟨rfl, q, hq⟩
            have g : Gr w55 w60 := by rw [hq]; exact Gr.drewN _ _
            clear hq
            refine ⟨_, rfl, ?_⟩
            intro ac F
            replace G := G.trans g
            replace hC := hC.gr g
            replace GB_ := GB_.trans g
            replace hf := hf.gr g
            replace hx := hx.gr g
            replace hy := hy.gr g
            replace hm := hm.gr g
            replace hR9 := hR9.gr g
            replace hR14 := hR14.gr g
            replace hla := hla.gr g
            replace hqi := hqi.gr g
            clear g
            refine X.pval F (X.w0 rfl) rfl (X.notB rfl (F.ev 101 (.bool (decide (S = C))) (by kernel_rfl)) rfl) ?_
            clear F ac
            intro ac F
            refine wpList_nil ?_
            replace F : Fr ac 248 [(0, .agg #[.slice ta tn tc, .slice ca cn cc]), (1, .agg #[.slice a qn c, .slice b m d]), (2, .agg #[.slice fa fn fc, .slice pa pn pc, .int .i64 bu, .int .i64 dn, .slice ma mn mc]), (3, .pointer (some ⟨w.heap.size, 0, none⟩)), (4, .pointer (some ⟨w3.heap.size, 0, none⟩)), (5, .pointer (some ⟨w4.heap.size, 0, none⟩)), (7, .slice ra9 rn9 rc9), (8, .int .i64 (intE f xs Q bu ms)), (9, .slice (some sd) rn14 rc14), (10, .slice la qn lc), (11, .int .i64 A), (12, .int .i64 k), (14, .bool true), (15, .int .i64 (wE f S)), (32, .bool false), (51, .bool false), (66, .bool false), (77, .bool true), (95, .bool false), (102, .bool (!(decide (S = C))))] := F.sub _ (by kernel_rfl)
            refine X.thenN ?_
            cases h61 : decide (S = C) with
            | false =>
              try rw [h61] at F
              have hBA : B = A + 1 ∧ A < Q.length := by
                rcases hB3 with h | h
                · exact absurd (HS.out.trans (by rw [h, HC.out])) (of_decide_eq_false h61)
                · exact h
              have hAl := hBA.2
              have hA7 : A < rn9 := by have := HLN.out; omega
              have HLE : Hid (∀ j, j < qn → C[j]?.getD 0 ≤ S[j]?.getD 0) := Lib.hid (fun j hj => by rw [HC.out, HS.out, hBA.1]; exact HPL.out.le hAl j (by rw [← HNX.out]; exact hj))
              obtain ⟨ld, ya, yn, yc, hla, hlb, hlc, hyi⟩ := hR9.at (j := A) (by have := HLN.out; omega)
              subst hla
              rw [show Q[A]?.getD [] = S from by rw [HS.out, hBA.1, pAt_succ]] at hyi
              replace hC : RCells w60 [(⟨w.heap.size, 0, none⟩, .slice ta tn tc), (⟨w.heap.size, 1, none⟩, .slice ca cn cc), (⟨w3.heap.size, 0, none⟩, .slice a qn c), (⟨w3.heap.size, 1, none⟩, .slice b m d), (⟨w4.heap.size, 0, none⟩, .slice fa fn fc), (⟨w4.heap.size, 1, none⟩, .slice pa pn pc), (⟨w4.heap.size, 2, none⟩, .int .i64 bu), (⟨w4.heap.size, 3, none⟩, .int .i64 dn), (⟨w4.heap.size, 4, none⟩, .slice ma mn mc), (sd.add k, .slice qa qn qc), (ld.add A, .slice ya yn yc)] := hC.append ((RCells.cons hlc (RCells.nil _)))
              clear hlc
              refine wp_cond_true (F.ev 102 (.bool true) (by kernel_rfl)) ?_
              refine wp_seq ?_
              refine wp_seq ?_
              have h63 : decide ((rn9 : Int) ≤ A) = false := decide_eq_false (by have := hAl; have := HLN.out; omega)
              have h63p : ¬ ((rn9 : Int) ≤ A) := of_decide_eq_false h63
              try rw [h63] at F
              refine region_x F [some (.int .i64 A), some (.slice (some ld) rn9 rc9), some (.int .i64 rn9), some (.bool false), some (.bool false), some (.slice (some sd) rn14 rc14), some (.int .i64 k), some (.pointer (some (sd.add k))), some (.slice qa qn qc), some (.slice (some ld) rn9 rc9), some (.int .i64 A), some (.pointer (some (ld.add A))), some (.slice ya yn yc), some (.bool true), some (.bool false), some (.bool false)] (X.RG w60) rfl ⟨by kernel_rfl, of_decide_eq_true (by kernel_rfl), by kernel_rfl, by kernel_rfl, by kernel_rfl⟩ (fun _ => ⟨Gr.refl _, Gr.drew _⟩) ⟨?_, ?_, ?_, ?_, ?_, ?_, ?_, ?_, ?_, ?_, ?_, ?_, ?_, ?_, ?_, ?_, trivial⟩ ?_
              · intro ac done u W Sx g
                replace g : Gr w60 W := g
                exact X.val (X.w0 rfl) rfl (X.move rfl (Sx.ev 11 (.int .i64 A) (by kernel_rfl))) g
              · intro ac done u W Sx g
                replace g : Gr w60 W := g
                exact X.val (X.w0 rfl) rfl (X.move rfl (Sx.ev 7 (.slice (some ld) rn9 rc9) (by kernel_rfl))) g
              · intro ac done u W Sx g
                replace g : Gr w60 W := g
                exact X.val (X.w0 rfl) rfl (X.len1 Try.underlying22 rfl (Sx.ev 104 (.slice (some ld) rn9 rc9) (by kernel_rfl))) g
              · intro ac done u W Sx g
                replace g : Gr w60 W := g
                exact X.val (X.w0 rfl) rfl (X.binop rfl (Sx.ev 103 (.int .i64 A) (by kernel_rfl)) (Sx.ev 105 (.int .i64 rn9) (by kernel_rfl)) (X.geqI Try.underlying3 h63)) g
              · intro ac done u W Sx g
                replace g : Gr w60 W := g
                exact X.val (X.w0 rfl) rfl (X.move rfl (Sx.ev 106 (.bool false) (by kernel_rfl))) g
              · intro ac done u W Sx g
                replace g : Gr w60 W := g
                exact X.val (X.w1 rfl (Sx.yl 4 107 false (by kernel_rfl) rfl rfl)) rfl (X.move rfl (Sx.ev 9 (.slice (some sd) rn14 rc14) (by kernel_rfl))) g
              · intro ac done u W Sx g
                replace g : Gr w60 W := g
                exact X.val (X.w1 rfl (Sx.yl 4 107 false (by kernel_rfl) rfl rfl)) rfl (X.move rfl (Sx.ev 12 (.int .i64 k) (by kernel_rfl))) g
              · intro ac done u W Sx g
                replace g : Gr w60 W := g
                exact X.val (X.w1 rfl (Sx.yl 4 107 false (by kernel_rfl) rfl rfl)) rfl (X.index rfl (Sx.ev 108 (.slice (some sd) rn14 rc14) (by kernel_rfl)) (Sx.ev 109 (.int .i64 k) (by kernel_rfl)) (X.idx Try.underlying22 (Try.siz26 _) (by omega) (by omega) (by rw [Nat.mul_one]; try rw [hA2]))) g
              · intro ac done u W Sx g
                replace g : Gr w60 W := g
                exact X.val (X.w1 rfl (Sx.yl 4 107 false (by kernel_rfl) rfl rfl)) rfl (X.load rfl (Sx.ev 110 (.pointer (some (sd.add k))) (by kernel_rfl)) (X.ld1 (Try.agg26 _) ((hC.gr g).at 9 rfl))) g
              · intro ac done u W Sx g
                replace g : Gr w60 W := g
                exact X.val (X.w1 rfl (Sx.yl 4 107 false (by kernel_rfl) rfl rfl)) rfl (X.move rfl (Sx.ev 7 (.slice (some ld) rn9 rc9) (by kernel_rfl))) g
              · intro ac done u W Sx g
                replace g : Gr w60 W := g
                exact X.val (X.w1 rfl (Sx.yl 4 107 false (by kernel_rfl) rfl rfl)) rfl (X.move rfl (Sx.ev 11 (.int .i64 A) (by kernel_rfl))) g
              · intro ac done u W Sx g
                replace g : Gr w60 W := g
                exact X.val (X.w1 rfl (Sx.yl 4 107 false (by kernel_rfl) rfl rfl)) rfl (X.index rfl (Sx.ev 112 (.slice (some ld) rn9 rc9) (by kernel_rfl)) (Sx.ev 113 (.int .i64 A) (by kernel_rfl)) (X.idx Try.underlying22 (Try.siz26 _) (by omega) (by omega) (by rw [Nat.mul_one]; try rw [hA2]))) g
              · intro ac done u W Sx g
                replace g : Gr w60 W := g
                exact X.val (X.w1 rfl (Sx.yl 4 107 false (by kernel_rfl) rfl rfl)) rfl (X.load rfl (Sx.ev 114 (.pointer (some (ld.add A))) (by kernel_rfl)) (X.ld1 (Try.agg26 _) ((hC.gr g).at 10 rfl))) g
              · intro ac done u W Sx g
                replace g : Gr w60 W := g
                refine X.call (X.w1 rfl (Sx.yl 4 107 false (by kernel_rfl) rfl rfl)) (X.enter (F := 22) rfl (X.kc (.func (.func 22) #[] #[]) rfl) (X.a2 (Sx.ev 111 (.slice qa qn qc) (by kernel_rfl)) (Sx.ev 115 (.slice ya yn yc) (by kernel_rfl))) (enters_of Try.func22 (by kernel_rfl) rfl _)) (by have hq := sameInts_any qa ya qn qc yn yc S S W (hqi.gr g) (hyi.gr g); rw [decide_eq_true rfl] at hq; exact hq) ?_
                rintro e W' ⟨rfl, q, rfl⟩
                exact ⟨_, rfl, X.kn rfl, g.trans (Gr.drewN _ _)⟩
              · intro ac done u W Sx g
                replace g : Gr w60 W := g
                exact X.val (X.w1 rfl (Sx.yl 4 107 false (by kernel_rfl) rfl rfl)) rfl (X.notB rfl (Sx.ev 116 (.bool true) (by kernel_rfl)) rfl) g
              · intro ac done u W Sx g
                replace g : Gr w60 W := g
                exact X.val (X.w0 rfl) rfl (X.pickF rfl (Sx.ev 107 (.bool false) (by kernel_rfl)) (Sx.ev 117 (.bool false) (by kernel_rfl))) g
              intro ac u w64 hs hd hl ho g
              replace g : Gr w60 w64 := g
              replace F : Fr ac 248 [(0, .agg #[.slice ta tn tc, .slice ca cn cc]), (1, .agg #[.slice a qn c, .slice b m d]), (2, .agg #[.slice fa fn fc, .slice pa pn pc, .int .i64 bu, .int .i64 dn, .slice ma mn mc]), (3, .pointer (some ⟨w.heap.size, 0, none⟩)), (4, .pointer (some ⟨w3.heap.size, 0, none⟩)), (5, .pointer (some ⟨w4.heap.size, 0, none⟩)), (7, .slice (some ld) rn9 rc9), (8, .int .i64 (intE f xs Q bu ms)), (9, .slice (some sd) rn14 rc14), (10, .slice la qn lc), (11, .int .i64 A), (12, .int .i64 k), (14, .bool true), (15, .int .i64 (wE f S)), (32, .bool false), (51, .bool false), (66, .bool false), (77, .bool true), (95, .bool false), (102, .bool true), (118, .bool false)] := X.fr hs hd hl _ (by kernel_rfl)
              clear hs hd hl ho
              replace G := G.trans g
              replace hC := hC.gr g
              replace GB_ := GB_.trans g
              replace hf := hf.gr g
              replace hx := hx.gr g
              replace hy := hy.gr g
              replace hm := hm.gr g
              replace hR9 := hR9.gr g
              replace hR14 := hR14.gr g
              replace hla := hla.gr g
              replace hqi := hqi.gr g
              replace hyi := hyi.gr g
              clear g
              refine X.thenN ?_
              refine wp_cond_false (F.ev 118 (.bool false) (by kernel_rfl)) ?_
              refine wp_skip ?_
              refine X.thenN ?_
              refine wp_region_lit ?_
              refine X.pval F (X.w0 rfl) rfl (X.move rfl (F.ev 11 (.int .i64 A) (by kernel_rfl))) ?_
              clear F ac
              intro ac F
              refine X.pval F (X.w0 rfl) rfl (X.binop rfl (F.ev 119 (.int .i64 A) (by kernel_rfl)) (X.kc (.int .i64 1) rfl) (X.addI Try.underlying3 rfl (by omega) (by omega))) ?_
              clear F ac
              intro ac F
              refine X.pval F (X.w0 rfl) rfl (X.assign rfl (F.ev 120 (.int .i64 ((A : Int) + 1)) (by kernel_rfl))) ?_
              clear F ac
              intro ac F
              refine wpList_nil ?_
              replace F : Fr ac 248 [(0, .agg #[.slice ta tn tc, .slice ca cn cc]), (1, .agg #[.slice a qn c, .slice b m d]), (2, .agg #[.slice fa fn fc, .slice pa pn pc, .int .i64 bu, .int .i64 dn, .slice ma mn mc]), (3, .pointer (some ⟨w.heap.size, 0, none⟩)), (4, .pointer (some ⟨w3.heap.size, 0, none⟩)), (5, .pointer (some ⟨w4.heap.size, 0, none⟩)), (7, .slice (some ld) rn9 rc9), (8, .int .i64 (intE f xs Q bu ms)), (9, .slice (some sd) rn14 rc14), (10, .slice la qn lc), (11, .int .i64 ((A : Int) + 1)), (12, .int .i64 k), (14, .bool true), (15, .int .i64 (wE f S)), (32, .bool false), (51, .bool false), (66, .bool false), (77, .bool true), (95, .bool false), (102, .bool true), (118, .bool false)] := F.sub _ (by kernel_rfl)
              refine X.thenN ?_
              refine wp_seq ?_
              refine wp_seq ?_
              refine wp_region_lit ?_
              refine X.pval F (X.w0 rfl) rfl (X.assign rfl (X.kc (.int .i64 0) rfl)) ?_
              clear F ac
              intro ac F
              refine wpList_nil ?_
              replace F : Fr ac 248 [(0, .agg #[.slice ta tn tc, .slice ca cn cc]), (1, .agg #[.slice a qn c, .slice b m d]), (2, .agg #[.slice fa fn fc, .slice pa pn pc, .int .i64 bu, .int .i64 dn, .slice ma mn mc]), (3, .pointer (some ⟨w.heap.size, 0, none⟩)), (4, .pointer (some ⟨w3.heap.size, 0, none⟩)), (5, .pointer (some ⟨w4.heap.size, 0, none⟩)), (7, .slice (some ld) rn9 rc9), (8, .int .i64 (intE f xs Q bu ms)), (9, .slice (some sd) rn14 rc14), (10, .slice la qn lc), (11, .int .i64 ((A : Int) + 1)), (12, .int .i64 k), (14, .bool true), (15, .int .i64 (wE f S)), (16, .int .i64 0), (32, .bool false), (51, .bool false), (66, .bool false), (77, .bool true), (95, .bool false), (102, .bool true), (118, .bool false)] := F.sub _ (by kernel_rfl)
              refine X.thenN ?_
              refine wp_block ?_
              have hfBB := hf
              have hxBB := hx
              have hyBB := hy
              have hmBB := hm
              have hR9BB := hR9
              have hR14BB := hR14
              have hlaBB := hla
              have hqiBB := hqi
              have hyiBB := hyi
              have hCBB := hC
              have GBB := G
              refine wp_loop_ghost (fun me_ ac wr => ∃ (j : Nat), me_ = qn - j ∧ Gr w64 wr ∧ j ≤ qn ∧ Fr ac 248 [(0, .agg #[.slice ta tn tc, .slice ca cn cc]), (1, .agg #[.slice a qn c, .slice b m d]), (2, .agg #[.slice fa fn fc, .slice pa pn pc, .int .i64 bu, .int .i64 dn, .slice ma mn mc]), (3, .pointer (some ⟨w.heap.size, 0, none⟩)), (4, .pointer (some ⟨w3.heap.size, 0, none⟩)), (5, .pointer (some ⟨w4.heap.size, 0, none⟩)), (7, .slice (some ld) rn9 rc9), (8, .int .i64 (intE f xs Q bu ms)), (9, .slice (some sd) rn14 rc14), (10, .slice la qn lc), (11, .int .i64 ((A : Int) + 1)), (12, .int .i64 k), (14, .bool true), (15, .int .i64 (wE f S)), (16, .int .i64 j), (32, .bool false), (51, .bool false), (66, .bool false), (77, .bool true), (95, .bool false), (102, .bool true), (118, .bool false)]) _ ⟨0, rfl, Gr.refl _, Nat.zero_le _, F.sub _ (by kernel_rfl)⟩ ?_
              clear F
              intro me_ ac w65 hI
              obtain ⟨j, rfl, gr, hj, F⟩ := hI
              replace G := GBB.trans gr
              replace hC := hCBB.gr gr
              replace hf := hfBB.gr gr
              replace hx := hxBB.gr gr
              replace hy := hyBB.gr gr
              replace hm := hmBB.gr gr
              replace hR9 := hR9BB.gr gr
              replace hR14 := hR14BB.gr gr
              replace hla := hlaBB.gr gr
              replace hqi := hqiBB.gr gr
              replace hyi := hyiBB.gr gr
              replace GB_ := GB_.trans gr
              have GBB_ := gr
              clear gr
              refine wp_seq ?_
              refine wp_seq ?_
              refine wp_region_lit ?_
              refine X.pval F (X.w0 rfl) rfl (X.move rfl (F.ev 16 (.int .i64 j) (by kernel_rfl))) ?_
              clear F ac
              intro ac F
              refine X.pval F (X.w0 rfl) rfl (X.move rfl (F.ev 9 (.slice (some sd) rn14 rc14) (by kernel_rfl))) ?_
              clear F ac
              intro ac F
              refine X.pval F (X.w0 rfl) rfl (X.move rfl (F.ev 12 (.int .i64 k) (by kernel_rfl))) ?_
              clear F ac
              intro ac F
              refine X.pval F (X.w0 rfl) rfl (X.index rfl (F.ev 122 (.slice (some sd) rn14 rc14) (by kernel_rfl)) (F.ev 123 (.int .i64 k) (by kernel_rfl)) (X.idx Try.underlying22 (Try.siz26 _) (by omega) (by omega) (by rw [Nat.mul_one]; try rw [hA2]))) ?_
              clear F ac
              intro ac F
              refine X.pval F (X.w0 rfl) rfl (X.load rfl (F.ev 124 (.pointer (some (sd.add k))) (by kernel_rfl)) (X.ld1 (Try.agg26 _) (hC.at 9 rfl))) ?_
              clear F ac
              intro ac F
              refine X.pval F (X.w0 rfl) rfl (X.len1 Try.underlying26 rfl (F.ev 125 (.slice qa qn qc) (by kernel_rfl))) ?_
              clear F ac
              intro ac F
              refine X.pval F (X.w0 rfl) rfl (X.binop rfl (F.ev 121 (.int .i64 j) (by kernel_rfl)) (F.ev 126 (.int .i64 qn) (by kernel_rfl)) (X.lssI Try.underlying3 rfl)) ?_
              clear F ac
              intro ac F
              refine wpList_nil ?_
              replace F : Fr ac 248 [(0, .agg #[.slice ta tn tc, .slice ca cn cc]), (1, .agg #[.slice a qn c, .slice b m d]), (2, .agg #[.slice fa fn fc, .slice pa pn pc, .int .i64 bu, .int .i64 dn, .slice ma mn mc]), (3, .pointer (some ⟨w.heap.size, 0, none⟩)), (4, .pointer (some ⟨w3.heap.size, 0, none⟩)), (5, .pointer (some ⟨w4.heap.size, 0, none⟩)), (7, .slice (some ld) rn9 rc9), (8, .int .i64 (intE f xs Q bu ms)), (9, .slice (some sd) rn14 rc14), (10, .slice la qn lc), (11, .int .i64 ((A : Int) + 1)), (12, .int .i64 k), (14, .bool true), (15, .int .i64 (wE f S)), (16, .int .i64 j), (32, .bool false), (51, .bool false), (66, .bool false), (77, .bool true), (95, .bool false), (102, .bool true), (118, .bool false), (127, .bool (decide ((j : Int) < qn)))] := F.sub _ (by kernel_rfl)
              refine X.thenN ?_
              cases h66 : decide ((j : Int) < qn) with
              | false =>
                try rw [h66] at F
                have h66p : ¬ ((j : Int) < qn) := of_decide_eq_false h66
                refine wp_cond_false (F.ev 127 (.bool false) (by kernel_rfl)) ?_
                refine wp_exit ?_
                refine X.thenX ?_
                refine X.thenX ?_
                refine X.blockX ?_
                refine X.thenN ?_
                refine wp_region_lit ?_
                refine X.pval F (X.w0 rfl) rfl (X.move rfl (F.ev 9 (.slice (some sd) rn14 rc14) (by kernel_rfl))) ?_
                clear F ac
                intro ac F
                refine X.pval F (X.w0 rfl) rfl (X.move rfl (F.ev 12 (.int .i64 k) (by kernel_rfl))) ?_
                clear F ac
                intro ac F
                refine X.pval F (X.w0 rfl) rfl (X.index rfl (F.ev 142 (.slice (some sd) rn14 rc14) (by kernel_rfl)) (F.ev 143 (.int .i64 k) (by kernel_rfl)) (X.idx Try.underlying22 (Try.siz26 _) (by omega) (by omega) (by rw [Nat.mul_one]; try rw [hA2]))) ?_
                clear F ac
                intro ac F
                refine X.pval F (X.w0 rfl) rfl (X.load rfl (F.ev 144 (.pointer (some (sd.add k))) (by kernel_rfl)) (X.ld1 (Try.agg26 _) (hC.at 9 rfl))) ?_
                clear F ac
                intro ac F
                refine X.pval F (X.w0 rfl) rfl (X.assign rfl (F.ev 145 (.slice qa qn qc) (by kernel_rfl))) ?_
                clear F ac
                intro ac F
                refine wpList_nil ?_
                replace F : Fr ac 248 [(0, .agg #[.slice ta tn tc, .slice ca cn cc]), (1, .agg #[.slice a qn c, .slice b m d]), (2, .agg #[.slice fa fn fc, .slice pa pn pc, .int .i64 bu, .int .i64 dn, .slice ma mn mc]), (3, .pointer (some ⟨w.heap.size, 0, none⟩)), (4, .pointer (some ⟨w3.heap.size, 0, none⟩)), (5, .pointer (some ⟨w4.heap.size, 0, none⟩)), (7, .slice (some ld) rn9 rc9), (8, .int .i64 (intE f xs Q bu ms)), (9, .slice (some sd) rn14 rc14), (10, .slice qa qn qc), (11, .int .i64 ((A : Int) + 1)), (12, .int .i64 k), (14, .bool true), (15, .int .i64 (wE f S)), (16, .int .i64 j), (32, .bool false), (51, .bool false), (66, .bool false), (77, .bool true), (95, .bool false), (102, .bool true), (118, .bool false), (127, .bool false)] := F.sub _ (by kernel_rfl)
                refine X.blockN ?_
                refine X.thenN ?_
                refine wp_region_lit ?_
                refine X.pval F (X.w0 rfl) rfl (X.move rfl (F.ev 12 (.int .i64 k) (by kernel_rfl))) ?_
                clear F ac
                intro ac F
                refine X.pval F (X.w0 rfl) rfl (X.binop rfl (F.ev 78 (.int .i64 k) (by kernel_rfl)) (X.kc (.int .i64 1) rfl) (X.addI Try.underlying3 rfl (by omega) (by omega))) ?_
                clear F ac
                intro ac F
                refine X.pval F (X.w0 rfl) rfl (X.assign rfl (F.ev 79 (.int .i64 ((k : Int) + 1)) (by kernel_rfl))) ?_
                clear F ac
                intro ac F
                refine wpList_nil ?_
                replace F : Fr ac 248 [(0, .agg #[.slice ta tn tc, .slice ca cn cc]), (1, .agg #[.slice a qn c, .slice b m d]), (2, .agg #[.slice fa fn fc, .slice pa pn pc, .int .i64 bu, .int .i64 dn, .slice ma mn mc]), (3, .pointer (some ⟨w.heap.size, 0, none⟩)), (4, .pointer (some ⟨w3.heap.size, 0, none⟩)), (5, .pointer (some ⟨w4.heap.size, 0, none⟩)), (7, .slice (some ld) rn9 rc9), (8, .int .i64 (intE f xs Q bu ms)), (9, .slice (some sd) rn14 rc14), (10, .slice qa qn qc), (11, .int .i64 ((A : Int) + 1)), (12, .int .i64 ((k : Int) + 1)), (14, .bool true), (15, .int .i64 (wE f S)), (16, .int .i64 j), (32, .bool false), (51, .bool false), (66, .bool false), (77, .bool true), (95, .bool false), (102, .bool true), (118, .bool false), (127, .bool false)] := F.sub _ (by kernel_rfl)
                refine X.thenN ?_
                refine ⟨_, ?_, k + 1, A + 1, qa, qc, rfl, GB_, by omega, by omega, (by rw [← hBA.1, ← HS.out]; exact hqi), (by rw [← hBA.1]; exact HP2), F.sub _ (by kernel_rfl)⟩
                omega
              | true =>
                try rw [h66] at F
                have h66p : ((j : Int) < qn) := of_decide_eq_true h66
                have hjn : j < qn := by omega
                obtain ⟨qd, hqa, _, hqc⟩ := hqi.at hjn
                subst hqa
                obtain ⟨cd, hca, _, hcc⟩ := hla.at hjn
                subst hca
                replace hC : RCells w65 [(⟨w.heap.size, 0, none⟩, .slice ta tn tc), (⟨w.heap.size, 1, none⟩, .slice ca cn cc), (⟨w3.heap.size, 0, none⟩, .slice a qn c), (⟨w3.heap.size, 1, none⟩, .slice b m d), (⟨w4.heap.size, 0, none⟩, .slice fa fn fc), (⟨w4.heap.size, 1, none⟩, .slice pa pn pc), (⟨w4.heap.size, 2, none⟩, .int .i64 bu), (⟨w4.heap.size, 3, none⟩, .int .i64 dn), (⟨w4.heap.size, 4, none⟩, .slice ma mn mc), (sd.add k, .slice (some qd) qn qc), (ld.add A, .slice ya yn yc), (qd.add j, .int .i64 (S[j]?.getD 0)), (cd.add j, .int .i64 (C[j]?.getD 0))] := hC.append ((RCells.cons hqc (RCells.cons hcc (RCells.nil _))))
                clear hqc hcc
                refine wp_cond_true (F.ev 127 (.bool true) (by kernel_rfl)) ?_
                refine wp_skip ?_
                refine X.thenN ?_
                refine wp_seq ?_
                refine wp_block ?_
                refine wp_seq ?_
                refine region_x F [some (.slice (some sd) rn14 rc14), some (.int .i64 k), some (.pointer (some (sd.add k))), some (.slice (some qd) qn qc), some (.int .i64 j), some (.pointer (some (qd.add j))), some (.int .i64 (S[j]?.getD 0)), some (.slice (some cd) qn lc), some (.int .i64 j), some (.pointer (some (cd.add j))), some (.int .i64 (C[j]?.getD 0)), some (.bool (decide ((S[j]?.getD 0 : Int) < (C[j]?.getD 0))))] (X.RG w65) rfl ⟨by kernel_rfl, of_decide_eq_true (by kernel_rfl), by kernel_rfl, by kernel_rfl, by kernel_rfl⟩ (fun _ => ⟨Gr.refl _, Gr.drew _⟩) ⟨?_, ?_, ?_, ?_, ?_, ?_, ?_, ?_, ?_, ?_, ?_, ?_, trivial⟩ ?_
                · intro ac done u W Sx g
                  replace g : Gr w65 W := g
                  exact X.val (X.w0 rfl) rfl (X.move rfl (Sx.ev 9 (.slice (some sd) rn14 rc14) (by kernel_rfl))) g
                · intro ac done u W Sx g
                  replace g : Gr w65 W := g
                  exact X.val (X.w0 rfl) rfl (X.move rfl (Sx.ev 12 (.int .i64 k) (by kernel_rfl))) g
                · intro ac done u W Sx g
                  replace g : Gr w65 W := g
                  exact X.val (X.w0 rfl) rfl (X.index rfl (Sx.ev 130 (.slice (some sd) rn14 rc14) (by kernel_rfl)) (Sx.ev 131 (.int .i64 k) (by kernel_rfl)) (X.idx Try.underlying22 (Try.siz26 _) (by omega) (by omega) (by rw [Nat.mul_one]; try rw [hA2]))) g
                · intro ac done u W Sx g
                  replace g : Gr w65 W := g
                  exact X.val (X.w0 rfl) rfl (X.load rfl (Sx.ev 132 (.pointer (some (sd.add k))) (by kernel_rfl)) (X.ld1 (Try.agg26 _) ((hC.gr g).at 9 rfl))) g
                · intro ac done u W Sx g
                  replace g : Gr w65 W := g
                  exact X.val (X.w0 rfl) rfl (X.move rfl (Sx.ev 16 (.int .i64 j) (by kernel_rfl))) g
                · intro ac done u W Sx g
                  replace g : Gr w65 W := g
                  exact X.val (X.w0 rfl) rfl (X.index rfl (Sx.ev 133 (.slice (some qd) qn qc) (by kernel_rfl)) (Sx.ev 134 (.int .i64 j) (by kernel_rfl)) (X.idx Try.underlying26 (Try.siz3 _) (by omega) (by omega) (by rw [Nat.mul_one]; try rw [hA2]))) g
                · intro ac done u W Sx g
                  replace g : Gr w65 W := g
                  exact X.val (X.w0 rfl) rfl (X.load rfl (Sx.ev 135 (.pointer (some (qd.add j))) (by kernel_rfl)) (X.ld1 (Try.agg3 _) ((hC.gr g).at 11 rfl))) g
                · intro ac done u W Sx g
                  replace g : Gr w65 W := g
                  exact X.val (X.w0 rfl) rfl (X.move rfl (Sx.ev 10 (.slice (some cd) qn lc) (by kernel_rfl))) g
                · intro ac done u W Sx g
                  replace g : Gr w65 W := g
                  exact X.val (X.w0 rfl) rfl (X.move rfl (Sx.ev 16 (.int .i64 j) (by kernel_rfl))) g
                · intro ac done u W Sx g
                  replace g : Gr w65 W := g
                  exact X.val (X.w0 rfl) rfl (X.index rfl (Sx.ev 137 (.slice (some cd) qn lc) (by kernel_rfl)) (Sx.ev 138 (.int .i64 j) (by kernel_rfl)) (X.idx Try.underlying26 (Try.siz3 _) (by omega) (by omega) (by rw [Nat.mul_one]; try rw [hA2]))) g
                · intro ac done u W Sx g
                  replace g : Gr w65 W := g
                  exact X.val (X.w0 rfl) rfl (X.load rfl (Sx.ev 139 (.pointer (some (cd.add j))) (by kernel_rfl)) (X.ld1 (Try.agg3 _) ((hC.gr g).at 12 rfl))) g
                · intro ac done u W Sx g
                  replace g : Gr w65 W := g
                  exact X.val (X.w0 rfl) rfl (X.binop rfl (Sx.ev 136 (.int .i64 (S[j]?.getD 0)) (by kernel_rfl)) (Sx.ev 140 (.int .i64 (C[j]?.getD 0)) (by kernel_rfl)) (X.lssI Try.underlying3 rfl)) g
                intro ac u w67 hs hd hl ho g
                replace g : Gr w65 w67 := g
                replace F : Fr ac 248 [(0, .agg #[.slice ta tn tc, .slice ca cn cc]), (1, .agg #[.slice a qn c, .slice b m d]), (2, .agg #[.slice fa fn fc, .slice pa pn pc, .int .i64 bu, .int .i64 dn, .slice ma mn mc]), (3, .pointer (some ⟨w.heap.size, 0, none⟩)), (4, .pointer (some ⟨w3.heap.size, 0, none⟩)), (5, .pointer (some ⟨w4.heap.size, 0, none⟩)), (7, .slice (some ld) rn9 rc9), (8, .int .i64 (intE f xs Q bu ms)), (9, .slice (some sd) rn14 rc14), (10, .slice (some cd) qn lc), (11, .int .i64 ((A : Int) + 1)), (12, .int .i64 k), (14, .bool true), (15, .int .i64 (wE f S)), (16, .int .i64 j), (32, .bool false), (51, .bool false), (66, .bool false), (77, .bool true), (95, .bool false), (102, .bool true), (118, .bool false), (127, .bool true), (141, .bool (decide ((S[j]?.getD 0 : Int) < (C[j]?.getD 0))))] := X.fr hs hd hl _ (by kernel_rfl)
                clear hs hd hl ho
                replace G := G.trans g
                replace hC := hC.gr g
                replace GB_ := GB_.trans g
                replace GBB_ := GBB_.trans g
                replace hf := hf.gr g
                replace hx := hx.gr g
                replace hy := hy.gr g
                replace hm := hm.gr g
                replace hR9 := hR9.gr g
                replace hR14 := hR14.gr g
                replace hla := hla.gr g
                replace hqi := hqi.gr g
                replace hyi := hyi.gr g
                clear g
                refine X.thenN ?_
                have h69 : decide ((S[j]?.getD 0 : Int) < (C[j]?.getD 0)) = false := decide_eq_false (by have := HLE.out j hjn; omega)
                have h69p : ¬ ((S[j]?.getD 0 : Int) < (C[j]?.getD 0)) := of_decide_eq_false h69
                try rw [h69] at F
                refine wp_cond_false (F.ev 141 (.bool false) (by kernel_rfl)) ?_
                refine wp_skip ?_
                refine X.blockN ?_
                refine X.thenN ?_
                refine wp_region_lit ?_
                refine X.pval F (X.w0 rfl) rfl (X.move rfl (F.ev 16 (.int .i64 j) (by kernel_rfl))) ?_
                clear F ac
                intro ac F
                refine X.pval F (X.w0 rfl) rfl (X.binop rfl (F.ev 128 (.int .i64 j) (by kernel_rfl)) (X.kc (.int .i64 1) rfl) (X.addI Try.underlying3 rfl (by omega) (by omega))) ?_
                clear F ac
                intro ac F
                refine X.pval F (X.w0 rfl) rfl (X.assign rfl (F.ev 129 (.int .i64 ((j : Int) + 1)) (by kernel_rfl))) ?_
                clear F ac
                intro ac F
                refine wpList_nil ?_
                replace F : Fr ac 248 [(0, .agg #[.slice ta tn tc, .slice ca cn cc]), (1, .agg #[.slice a qn c, .slice b m d]), (2, .agg #[.slice fa fn fc, .slice pa pn pc, .int .i64 bu, .int .i64 dn, .slice ma mn mc]), (3, .pointer (some ⟨w.heap.size, 0, none⟩)), (4, .pointer (some ⟨w3.heap.size, 0, none⟩)), (5, .pointer (some ⟨w4.heap.size, 0, none⟩)), (7, .slice (some ld) rn9 rc9), (8, .int .i64 (intE f xs Q bu ms)), (9, .slice (some sd) rn14 rc14), (10, .slice (some cd) qn lc), (11, .int .i64 ((A : Int) + 1)), (12, .int .i64 k), (14, .bool true), (15, .int .i64 (wE f S)), (16, .int .i64 ((j : Int) + 1)), (32, .bool false), (51, .bool false), (66, .bool false), (77, .bool true), (95, .bool false), (102, .bool true), (118, .bool false), (127, .bool true), (141, .bool false)] := F.sub _ (by kernel_rfl)
                refine X.thenN ?_
                refine ⟨_, ?_, j + 1, rfl, GBB_, by omega, F.sub _ (by kernel_rfl)⟩
                omega
            | true =>
              try rw [h61] at F
              have hBA : B = A := by
                rcases hB3 with h | ⟨h, h2⟩
                · exact h
                · exact absurd (HC.out.symm.trans ((of_decide_eq_true h61).symm.trans (HS.out.trans (by rw [h])))) (okPlan_ne Q xs HPL.out.pl A h2).1
              have HLE : Hid (∀ j, j < qn → C[j]?.getD 0 ≤ S[j]?.getD 0) := Lib.hid (fun j _ => by rw [(of_decide_eq_true h61)]; exact Int.le_refl _)
              refine wp_cond_false (F.ev 102 (.bool false) (by kernel_rfl)) ?_
              refine wp_skip ?_
              refine X.thenN ?_
              refine wp_seq ?_
              refine wp_seq ?_
              refine wp_region_lit ?_
              refine X.pval F (X.w0 rfl) rfl (X.assign rfl (X.kc (.int .i64 0) rfl)) ?_
              clear F ac
              intro ac F
              refine wpList_nil ?_
              replace F : Fr ac 248 [(0, .agg #[.slice ta tn tc, .slice ca cn cc]), (1, .agg #[.slice a qn c, .slice b m d]), (2, .agg #[.slice fa fn fc, .slice pa pn pc, .int .i64 bu, .int .i64 dn, .slice ma mn mc]), (3, .pointer (some ⟨w.heap.size, 0, none⟩)), (4, .pointer (some ⟨w3.heap.size, 0, none⟩)), (5, .pointer (some ⟨w4.heap.size, 0, none⟩)), (7, .slice ra9 rn9 rc9), (8, .int .i64 (intE f xs Q bu ms)), (9, .slice (some sd) rn14 rc14), (10, .slice la qn lc), (11, .int .i64 A), (12, .int .i64 k), (14, .bool true), (15, .int .i64 (wE f S)), (16, .int .i64 0), (32, .bool false), (51, .bool false), (66, .bool false), (77, .bool true), (95, .bool false), (102, .bool false)] := F.sub _ (by kernel_rfl)
              refine X.thenN ?_
              refine wp_block ?_
              have hfBB := hf
              have hxBB := hx
              have hyBB := hy
              have hmBB := hm
              have hR9BB := hR9
              have hR14BB := hR14
              have hlaBB := hla
              have hqiBB := hqi
              have hCBB := hC
              have GBB := G
              refine wp_loop_ghost (fun me_ ac wr => ∃ (j : Nat), me_ = qn - j ∧ Gr w60 wr ∧ j ≤ qn ∧ Fr ac 248 [(0, .agg #[.slice ta tn tc, .slice ca cn cc]), (1, .agg #[.slice a qn c, .slice b m d]), (2, .agg #[.slice fa fn fc, .slice pa pn pc, .int .i64 bu, .int .i64 dn, .slice ma mn mc]), (3, .pointer (some ⟨w.heap.size, 0, none⟩)), (4, .pointer (some ⟨w3.heap.size, 0, none⟩)), (5, .pointer (some ⟨w4.heap.size, 0, none⟩)), (7, .slice ra9 rn9 rc9), (8, .int .i64 (intE f xs Q bu ms)), (9, .slice (some sd) rn14 rc14), (10, .slice la qn lc), (11, .int .i64 A), (12, .int .i64 k), (14, .bool true), (15, .int .i64 (wE f S)), (16, .int .i64 j), (32, .bool false), (51, .bool false), (66, .bool false), (77, .bool true), (95, .bool false), (102, .bool false)]) _ ⟨0, rfl, Gr.refl _, Nat.zero_le _, F.sub _ (by kernel_rfl)⟩ ?_
              clear F
              intro me_ ac w70 hI
              obtain ⟨j, rfl, gr, hj, F⟩ := hI
              replace G := GBB.trans gr
              replace hC := hCBB.gr gr
              replace hf := hfBB.gr gr
              replace hx := hxBB.gr gr
              replace hy := hyBB.gr gr
              replace hm := hmBB.gr gr
              replace hR9 := hR9BB.gr gr
              replace hR14 := hR14BB.gr gr
              replace hla := hlaBB.gr gr
              replace hqi := hqiBB.gr gr
              replace GB_ := GB_.trans gr
              have GBB_ := gr
              clear gr
              refine wp_seq ?_
              refine wp_seq ?_
              refine wp_region_lit ?_
              refine X.pval F (X.w0 rfl) rfl (X.move rfl (F.ev 16 (.int .i64 j) (by kernel_rfl))) ?_
              clear F ac
              intro ac F
              refine X.pval F (X.w0 rfl) rfl (X.move rfl (F.ev 9 (.slice (some sd) rn14 rc14) (by kernel_rfl))) ?_
              clear F ac
              intro ac F
              refine X.pval F (X.w0 rfl) rfl (X.move rfl (F.ev 12 (.int .i64 k) (by kernel_rfl))) ?_
              clear F ac
              intro ac F
              refine X.pval F (X.w0 rfl) rfl (X.index rfl (F.ev 122 (.slice (some sd) rn14 rc14) (by kernel_rfl)) (F.ev 123 (.int .i64 k) (by kernel_rfl)) (X.idx Try.underlying22 (Try.siz26 _) (by omega) (by omega) (by rw [Nat.mul_one]; try rw [hA2]))) ?_
              clear F ac
              intro ac F
              refine X.pval F (X.w0 rfl) rfl (X.load rfl (F.ev 124 (.pointer (some (sd.add k))) (by kernel_rfl)) (X.ld1 (Try.agg26 _) (hC.at 9 rfl))) ?_
              clear F ac
              intro ac F
              refine X.pval F (X.w0 rfl) rfl (X.len1 Try.underlying26 rfl (F.ev 125 (.slice qa qn qc) (by kernel_rfl))) ?_
              clear F ac
              intro ac F
              refine X.pval F (X.w0 rfl) rfl (X.binop rfl (F.ev 121 (.int .i64 j) (by kernel_rfl)) (F.ev 126 (.int .i64 qn) (by kernel_rfl)) (X.lssI Try.underlying3 rfl)) ?_
              clear F ac
              intro ac F
              refine wpList_nil ?_
              replace F : Fr ac 248 [(0, .agg #[.slice ta tn tc, .slice ca cn cc]), (1, .agg #[.slice a qn c, .slice b m d]), (2, .agg #[.slice fa fn fc, .slice pa pn pc, .int .i64 bu, .int .i64 dn, .slice ma mn mc]), (3, .pointer (some ⟨w.heap.size, 0, none⟩)), (4, .pointer (some ⟨w3.heap.size, 0, none⟩)), (5, .pointer (some ⟨w4.heap.size, 0, none⟩)), (7, .slice ra9 rn9 rc9), (8, .int .i64 (intE f xs Q bu ms)), (9, .slice (some sd) rn14 rc14), (10, .slice la qn lc), (11, .int .i64 A), (12, .int .i64 k), (14, .bool true), (15, .int .i64 (wE f S)), (16, .int .i64 j), (32, .bool false), (51, .bool false), (66, .bool false), (77, .bool true), (95, .bool false), (102, .bool false), (127, .bool (decide ((j : Int) < qn)))] := F.sub _ (by kernel_rfl)
              refine X.thenN ?_
              cases h71 : decide ((j : Int) < qn) with
              | false =>
                try rw [h71] at F
                have h71p : ¬ ((j : Int) < qn) := of_decide_eq_false h71
                refine wp_cond_false (F.ev 127 (.bool false) (by kernel_rfl)) ?_
                refine wp_exit ?_
                refine X.thenX ?_
                refine X.thenX ?_
                refine X.blockX ?_
                refine X.thenN ?_
                refine wp_region_lit ?_
                refine X.pval F (X.w0 rfl) rfl (X.move rfl (F.ev 9 (.slice (some sd) rn14 rc14) (by kernel_rfl))) ?_
                clear F ac
                intro ac F
                refine X.pval F (X.w0 rfl) rfl (X.move rfl (F.ev 12 (.int .i64 k) (by kernel_rfl))) ?_
                clear F ac
                intro ac F
                refine X.pval F (X.w0 rfl) rfl (X.index rfl (F.ev 142 (.slice (some sd) rn14 rc14) (by kernel_rfl)) (F.ev 143 (.int .i64 k) (by kernel_rfl)) (X.idx Try.underlying22 (Try.siz26 _) (by omega) (by omega) (by rw [Nat.mul_one]; try rw [hA2]))) ?_
                clear F ac
                intro ac F
                refine X.pval F (X.w0 rfl) rfl (X.load rfl (F.ev 144 (.pointer (some (sd.add k))) (by kernel_rfl)) (X.ld1 (Try.agg26 _) (hC.at 9 rfl))) ?_
                clear F ac
                intro ac F
                refine X.pval F (X.w0 rfl) rfl (X.assign rfl (F.ev 145 (.slice qa qn qc) (by kernel_rfl))) ?_
                clear F ac
                intro ac F
                refine wpList_nil ?_
                replace F : Fr ac 248 [(0, .agg #[.slice ta tn tc, .slice ca cn cc]), (1, .agg #[.slice a qn c, .slice b m d]), (2, .agg #[.slice fa fn fc, .slice pa pn pc, .int .i64 bu, .int .i64 dn, .slice ma mn mc]), (3, .pointer (some ⟨w.heap.size, 0, none⟩)), (4, .pointer (some ⟨w3.heap.size, 0, none⟩)), (5, .pointer (some ⟨w4.heap.size, 0, none⟩)), (7, .slice ra9 rn9 rc9), (8, .int .i64 (intE f xs Q bu ms)), (9, .slice (some sd) rn14 rc14), (10, .slice qa qn qc), (11, .int .i64 A), (12, .int .i64 k), (14, .bool true), (15, .int .i64 (wE f S)), (16, .int .i64 j), (32, .bool false), (51, .bool false), (66, .bool false), (77, .bool true), (95, .bool false), (102, .bool false), (127, .bool false)] := F.sub _ (by kernel_rfl)
                refine X.blockN ?_
                refine X.thenN ?_
                refine wp_region_lit ?_
                refine X.pval F (X.w0 rfl) rfl (X.move rfl (F.ev 12 (.int .i64 k) (by kernel_rfl))) ?_
                clear F ac
                intro ac F
                refine X.pval F (X.w0 rfl) rfl (X.binop rfl (F.ev 78 (.int .i64 k) (by kernel_rfl)) (X.kc (.int .i64 1) rfl) (X.addI Try.underlying3 rfl (by omega) (by omega))) ?_
                clear F ac
                intro ac F
                refine X.pval F (X.w0 rfl) rfl (X.assign rfl (F.ev 79 (.int .i64 ((k : Int) + 1)) (by kernel_rfl))) ?_
                clear F ac
                intro ac F
                refine wpList_nil ?_
                replace F : Fr ac 248 [(0, .agg #[.slice ta tn tc, .slice ca cn cc]), (1, .agg #[.slice a qn c, .slice b m d]), (2, .agg #[.slice fa fn fc, .slice pa pn pc, .int .i64 bu, .int .i64 dn, .slice ma mn mc]), (3, .pointer (some ⟨w.heap.size, 0, none⟩)), (4, .pointer (some ⟨w3.heap.size, 0, none⟩)), (5, .pointer (some ⟨w4.heap.size, 0, none⟩)), (7, .slice ra9 rn9 rc9), (8, .int .i64 (intE f xs Q bu ms)), (9, .slice (some sd) rn14 rc14), (10, .slice qa qn qc), (11, .int .i64 A), (12, .int .i64 ((k : Int) + 1)), (14, .bool true), (15, .int .i64 (wE f S)), (16, .int .i64 j), (32, .bool false), (51, .bool false), (66, .bool false), (77, .bool true), (95, .bool false), (102, .bool false), (127, .bool false)] := F.sub _ (by kernel_rfl)
                refine X.thenN ?_
                refine ⟨_, ?_, k + 1, A, qa, qc, rfl, GB_, by omega, by omega, (by rw [← HC.out]; rw [← of_decide_eq_true h61]; exact hqi), (by rw [← hBA]; exact HP2), F.sub _ (by kernel_rfl)⟩
                omega
              | true =>
                try rw [h71] at F
                have h71p : ((j : Int) < qn) := of_decide_eq_true h71
                have hjn : j < qn := by omega
                obtain ⟨qd, hqa, _, hqc⟩ := hqi.at hjn
                subst hqa
                obtain ⟨cd, hca, _, hcc⟩ := hla.at hjn
                subst hca
                replace hC : RCells w70 [(⟨w.heap.size, 0, none⟩, .slice ta tn tc), (⟨w.heap.size, 1, none⟩, .slice ca cn cc), (⟨w3.heap.size, 0, none⟩, .slice a qn c), (⟨w3.heap.size, 1, none⟩, .slice b m d), (⟨w4.heap.size, 0, none⟩, .slice fa fn fc), (⟨w4.heap.size, 1, none⟩, .slice pa pn pc), (⟨w4.heap.size, 2, none⟩, .int .i64 bu), (⟨w4.heap.size, 3, none⟩, .int .i64 dn), (⟨w4.heap.size, 4, none⟩, .slice ma mn mc), (sd.add k, .slice (some qd) qn qc), (qd.add j, .int .i64 (S[j]?.getD 0)), (cd.add j, .int .i64 (C[j]?.getD 0))] := hC.append ((RCells.cons hqc (RCells.cons hcc (RCells.nil _))))
                clear hqc hcc
                refine wp_cond_true (F.ev 127 (.bool true) (by kernel_rfl)) ?_
                refine wp_skip ?_
                refine X.thenN ?_
                refine wp_seq ?_
                refine wp_block ?_
                refine wp_seq ?_
                refine region_x F [some (.slice (some sd) rn14 rc14), some (.int .i64 k), some (.pointer (some (sd.add k))), some (.slice (some qd) qn qc), some (.int .i64 j), some (.pointer (some (qd.add j))), some (.int .i64 (S[j]?.getD 0)), some (.slice (some cd) qn lc), some (.int .i64 j), some (.pointer (some (cd.add j))), some (.int .i64 (C[j]?.getD 0)), some (.bool (decide ((S[j]?.getD 0 : Int) < (C[j]?.getD 0))))] (X.RG w70) rfl ⟨by kernel_rfl, of_decide_eq_true (by kernel_rfl), by kernel_rfl, by kernel_rfl, by kernel_rfl⟩ (fun _ => ⟨Gr.refl _, Gr.drew _⟩) ⟨?_, ?_, ?_, ?_, ?_, ?_, ?_, ?_, ?_, ?_, ?_, ?_, trivial⟩ ?_
                · intro ac done u W Sx g
                  replace g : Gr w70 W := g
                  exact X.val (X.w0 rfl) rfl (X.move rfl (Sx.ev 9 (.slice (some sd) rn14 rc14) (by kernel_rfl))) g
                · intro ac done u W Sx g
                  replace g : Gr w70 W := g
                  exact X.val (X.w0 rfl) rfl (X.move rfl (Sx.ev 12 (.int .i64 k) (by kernel_rfl))) g
                · intro ac done u W Sx g
                  replace g : Gr w70 W := g
                  exact X.val (X.w0 rfl) rfl (X.index rfl (Sx.ev 130 (.slice (some sd) rn14 rc14) (by kernel_rfl)) (Sx.ev 131 (.int .i64 k) (by kernel_rfl)) (X.idx Try.underlying22 (Try.siz26 _) (by omega) (by omega) (by rw [Nat.mul_one]; try rw [hA2]))) g
                · intro ac done u W Sx g
                  replace g : Gr w70 W := g
                  exact X.val (X.w0 rfl) rfl (X.load rfl (Sx.ev 132 (.pointer (some (sd.add k))) (by kernel_rfl)) (X.ld1 (Try.agg26 _) ((hC.gr g).at 9 rfl))) g
                · intro ac done u W Sx g
                  replace g : Gr w70 W := g
                  exact X.val (X.w0 rfl) rfl (X.move rfl (Sx.ev 16 (.int .i64 j) (by kernel_rfl))) g
                · intro ac done u W Sx g
                  replace g : Gr w70 W := g
                  exact X.val (X.w0 rfl) rfl (X.index rfl (Sx.ev 133 (.slice (some qd) qn qc) (by kernel_rfl)) (Sx.ev 134 (.int .i64 j) (by kernel_rfl)) (X.idx Try.underlying26 (Try.siz3 _) (by omega) (by omega) (by rw [Nat.mul_one]; try rw [hA2]))) g
                · intro ac done u W Sx g
                  replace g : Gr w70 W := g
                  exact X.val (X.w0 rfl) rfl (X.load rfl (Sx.ev 135 (.pointer (some (qd.add j))) (by kernel_rfl)) (X.ld1 (Try.agg3 _) ((hC.gr g).at 10 rfl))) g
                · intro ac done u W Sx g
                  replace g : Gr w70 W := g
                  exact X.val (X.w0 rfl) rfl (X.move rfl (Sx.ev 10 (.slice (some cd) qn lc) (by kernel_rfl))) g
                · intro ac done u W Sx g
                  replace g : Gr w70 W := g
                  exact X.val (X.w0 rfl) rfl (X.move rfl (Sx.ev 16 (.int .i64 j) (by kernel_rfl))) g
                · intro ac done u W Sx g
                  replace g : Gr w70 W := g
                  exact X.val (X.w0 rfl) rfl (X.index rfl (Sx.ev 137 (.slice (some cd) qn lc) (by kernel_rfl)) (Sx.ev 138 (.int .i64 j) (by kernel_rfl)) (X.idx Try.underlying26 (Try.siz3 _) (by omega) (by omega) (by rw [Nat.mul_one]; try rw [hA2]))) g
                · intro ac done u W Sx g
                  replace g : Gr w70 W := g
                  exact X.val (X.w0 rfl) rfl (X.load rfl (Sx.ev 139 (.pointer (some (cd.add j))) (by kernel_rfl)) (X.ld1 (Try.agg3 _) ((hC.gr g).at 11 rfl))) g
                · intro ac done u W Sx g
                  replace g : Gr w70 W := g
                  exact X.val (X.w0 rfl) rfl (X.binop rfl (Sx.ev 136 (.int .i64 (S[j]?.getD 0)) (by kernel_rfl)) (Sx.ev 140 (.int .i64 (C[j]?.getD 0)) (by kernel_rfl)) (X.lssI Try.underlying3 rfl)) g
                intro ac u w72 hs hd hl ho g
                replace g : Gr w70 w72 := g
                replace F : Fr ac 248 [(0, .agg #[.slice ta tn tc, .slice ca cn cc]), (1, .agg #[.slice a qn c, .slice b m d]), (2, .agg #[.slice fa fn fc, .slice pa pn pc, .int .i64 bu, .int .i64 dn, .slice ma mn mc]), (3, .pointer (some ⟨w.heap.size, 0, none⟩)), (4, .pointer (some ⟨w3.heap.size, 0, none⟩)), (5, .pointer (some ⟨w4.heap.size, 0, none⟩)), (7, .slice ra9 rn9 rc9), (8, .int .i64 (intE f xs Q bu ms)), (9, .slice (some sd) rn14 rc14), (10, .slice (some cd) qn lc), (11, .int .i64 A), (12, .int .i64 k), (14, .bool true), (15, .int .i64 (wE f S)), (16, .int .i64 j), (32, .bool false), (51, .bool false), (66, .bool false), (77, .bool true), (95, .bool false), (102, .bool false), (127, .bool true), (141, .bool (decide ((S[j]?.getD 0 : Int) < (C[j]?.getD 0))))] := X.fr hs hd hl _ (by kernel_rfl)
                clear hs hd hl ho
                replace G := G.trans g
                replace hC := hC.gr g
                replace GB_ := GB_.trans g
                replace GBB_ := GBB_.trans g
                replace hf := hf.gr g
                replace hx := hx.gr g
                replace hy := hy.gr g
                replace hm := hm.gr g
                replace hR9 := hR9.gr g
                replace hR14 := hR14.gr g
                replace hla := hla.gr g
                replace hqi := hqi.gr g
                clear g
                refine X.thenN ?_
                have h74 : decide ((S[j]?.getD 0 : Int) < (C[j]?.getD 0)) = false := decide_eq_false (by have := HLE.out j hjn; omega)
                have h74p : ¬ ((S[j]?.getD 0 : Int) < (C[j]?.getD 0)) := of_decide_eq_false h74
                try rw [h74] at F
                refine wp_cond_false (F.ev 141 (.bool false) (by kernel_rfl)) ?_
                refine wp_skip ?_
                refine X.blockN ?_
                refine X.thenN ?_
                refine wp_region_lit ?_
                refine X.pval F (X.w0 rfl) rfl (X.move rfl (F.ev 16 (.int .i64 j) (by kernel_rfl))) ?_
                clear F ac
                intro ac F
                refine X.pval F (X.w0 rfl) rfl (X.binop rfl (F.ev 128 (.int .i64 j) (by kernel_rfl)) (X.kc (.int .i64 1) rfl) (X.addI Try.underlying3 rfl (by omega) (by omega))) ?_
                clear F ac
                intro ac F
                refine X.pval F (X.w0 rfl) rfl (X.assign rfl (F.ev 129 (.int .i64 ((j : Int) + 1)) (by kernel_rfl))) ?_
                clear F ac
                intro ac F
                refine wpList_nil ?_
                replace F : Fr ac 248 [(0, .agg #[.slice ta tn tc, .slice ca cn cc]), (1, .agg #[.slice a qn c, .slice b m d]), (2, .agg #[.slice fa fn fc, .slice pa pn pc, .int .i64 bu, .int .i64 dn, .slice ma mn mc]), (3, .pointer (some ⟨w.heap.size, 0, none⟩)), (4, .pointer (some ⟨w3.heap.size, 0, none⟩)), (5, .pointer (some ⟨w4.heap.size, 0, none⟩)), (7, .slice ra9 rn9 rc9), (8, .int .i64 (intE f xs Q bu ms)), (9, .slice (some sd) rn14 rc14), (10, .slice (some cd) qn lc), (11, .int .i64 A), (12, .int .i64 k), (14, .bool true), (15, .int .i64 (wE f S)), (16, .int .i64 ((j : Int) + 1)), (32, .bool false), (51, .bool false), (66, .bool false), (77, .bool true), (95, .bool false), (102, .bool false), (127, .bool true), (141, .bool false)] := F.sub _ (by kernel_rfl)
                refine X.thenN ?_
                refine ⟨_, ?_, j + 1, rfl, GBB_, by omega, F.sub _ (by kernel_rfl)⟩
                omega
        | true =>
          try rw [h16] at F
          have h16p : ¬ (intE f xs Q bu ms : Int) = 0 := by simpa using h16
          refine wp_cond_true (F.ev 66 (.bool true) (by kernel_rfl)) ?_
          refine wp_seq ?_
          refine wp_region_lit ?_
          refine X.pval F (X.w0 rfl) rfl (X.move rfl (F.ev 8 (.int .i64 (intE f xs Q bu ms)) (by kernel_rfl))) ?_
          clear F ac
          intro ac F
          refine X.pval F (X.w0 rfl) rfl (X.binop rfl (F.ev 67 (.int .i64 (intE f xs Q bu ms)) (by kernel_rfl)) (X.kc (.int .i64 1) rfl) (X.eqlI Try.underlying31 rfl)) ?_
          clear F ac
          intro ac F
          refine X.pval F (X.w0 rfl) rfl (X.move rfl (F.ev 68 (.bool ((intE f xs Q bu ms : Int) == 1)) (by kernel_rfl))) ?_
          clear F ac
          intro ac F
          have h76 : ((intE f xs Q bu ms : Int) == 1) = true := intE_01 HCP.out h16p
          try rw [h76] at F
          refine X.pcall F (X.w1 rfl (F.yl (j := 2) (d := 69) (b := true) rfl (by kernel_rfl))) rfl (X.enter (F := 16) rfl (X.kc (.func (.func 16) #[] #[]) rfl) rfl (enters_of Try.func16 (by kernel_rfl) rfl _)) (look_any w15) ?_
          clear F ac
          rintro e w77 ⟨rfl, g⟩
          refine ⟨_, rfl, ?_⟩
          intro ac F
          replace G := G.trans g
          replace hC := hC.gr g
          replace hf := hf.gr g
          replace hx := hx.gr g
          replace hy := hy.gr g
          replace hm := hm.gr g
          replace hR9 := hR9.gr g
          replace hR14 := hR14.gr g
          clear g
          refine X.pval F (X.w0 rfl) rfl (X.pickT rfl (F.ev 69 (.bool true) (by kernel_rfl)) (F.ev 70 (.bool true) (by kernel_rfl))) ?_
          clear F ac
          intro ac F
          refine X.pval F (X.w0 rfl) rfl (X.assign rfl (F.ev 71 (.bool true) (by kernel_rfl))) ?_
          clear F ac
          intro ac F
          refine wpList_nil ?_
          replace F : Fr ac 248 [(0, .agg #[.slice ta tn tc, .slice ca cn cc]), (1, .agg #[.slice a n c, .slice b m d]), (2, .agg #[.slice fa fn fc, .slice pa pn pc, .int .i64 bu, .int .i64 dn, .slice ma mn mc]), (3, .pointer (some ⟨w.heap.size, 0, none⟩)), (4, .pointer (some ⟨w3.heap.size, 0, none⟩)), (5, .pointer (some ⟨w4.heap.size, 0, none⟩)), (6, .bool true), (7, .slice ra9 rn9 rc9), (8, .int .i64 (intE f xs Q bu ms)), (9, .slice ra14 rn14 rc14), (32, .bool false), (51, .bool false), (66, .bool true)] := F.sub _ (by kernel_rfl)
          refine X.thenN ?_
          refine wp_ret ?_
          refine X.thenR ?_
          exact X.ret1 F rfl (by kernel_rfl) ⟨rfl, G⟩
      | true =>
        try rw [h11] at F
        have h11p : ¬ (planE f xs ys bu : Int) = 0 := by simpa using h11
        refine X.pskip F (X.w2 rfl (F.yl (j := 2) (d := 47) (b := true) rfl (by kernel_rfl)) rfl) rfl ?_
        clear F ac
        intro ac F
        refine X.pskip F (X.w2 rfl (F.yl (j := 2) (d := 47) (b := true) rfl (by kernel_rfl)) rfl) rfl ?_
        clear F ac
        intro ac F
        refine X.pskip F (X.w2 rfl (F.yl (j := 2) (d := 47) (b := true) rfl (by kernel_rfl)) rfl) rfl ?_
        clear F ac
        intro ac F
        refine X.pval F (X.w0 rfl) rfl (X.pickT rfl (F.ev 47 (.bool true) (by kernel_rfl)) (X.kc (.bool true) rfl)) ?_
        clear F ac
        intro ac F
        refine wpList_nil ?_
        replace F : Fr ac 248 [(0, .agg #[.slice ta tn tc, .slice ca cn cc]), (1, .agg #[.slice a n c, .slice b m d]), (2, .agg #[.slice fa fn fc, .slice pa pn pc, .int .i64 bu, .int .i64 dn, .slice ma mn mc]), (3, .pointer (some ⟨w.heap.size, 0, none⟩)), (4, .pointer (some ⟨w3.heap.size, 0, none⟩)), (5, .pointer (some ⟨w4.heap.size, 0, none⟩)), (6, .bool false), (7, .slice ra9 rn9 rc9), (8, .int .i64 (planE f xs ys bu)), (32, .bool false), (51, .bool true)] := F.sub _ (by kernel_rfl)
        refine X.thenN ?_
        refine wp_cond_true (F.ev 51 (.bool true) (by kernel_rfl)) ?_
        refine wp_seq ?_
        refine wp_region_lit ?_
        refine X.pcall F (X.w0 rfl) rfl (X.enter (F := 16) rfl (X.kc (.func (.func 16) #[] #[]) rfl) rfl (enters_of Try.func16 (by kernel_rfl) rfl _)) (look_any w10) ?_
        clear F ac
        rintro e w78 ⟨rfl, g⟩
        refine ⟨_, rfl, ?_⟩
        intro ac F
        replace G := G.trans g
        replace hC := hC.gr g
        replace hf := hf.gr g
        replace hx := hx.gr g
        replace hy := hy.gr g
        replace hm := hm.gr g
        replace hR9 := hR9.gr g
        clear g
        refine X.pval F (X.w0 rfl) rfl (X.assign rfl (F.ev 52 (.bool true) (by kernel_rfl))) ?_
        clear F ac
        intro ac F
        refine wpList_nil ?_
        replace F : Fr ac 248 [(0, .agg #[.slice ta tn tc, .slice ca cn cc]), (1, .agg #[.slice a n c, .slice b m d]), (2, .agg #[.slice fa fn fc, .slice pa pn pc, .int .i64 bu, .int .i64 dn, .slice ma mn mc]), (3, .pointer (some ⟨w.heap.size, 0, none⟩)), (4, .pointer (some ⟨w3.heap.size, 0, none⟩)), (5, .pointer (some ⟨w4.heap.size, 0, none⟩)), (6, .bool true), (7, .slice ra9 rn9 rc9), (8, .int .i64 (planE f xs ys bu)), (32, .bool false), (51, .bool true)] := F.sub _ (by kernel_rfl)
        refine X.thenN ?_
        refine wp_ret ?_
        refine X.thenR ?_
        exact X.ret1 F rfl (by kernel_rfl) ⟨rfl, G⟩
    | true =>
      try rw [h8] at F
      have h8p : ((64 : Int) < mn) := of_decide_eq_true h8
      refine wp_cond_true (F.ev 32 (.bool true) (by kernel_rfl)) ?_
      refine wp_seq ?_
      refine wp_region_lit ?_
      refine X.pcall F (X.w0 rfl) rfl (X.enter (F := 16) rfl (X.kc (.func (.func 16) #[] #[]) rfl) rfl (enters_of Try.func16 (by kernel_rfl) rfl _)) (look_any w6) ?_
      clear F ac
      rintro e w79 ⟨rfl, g⟩
      refine ⟨_, rfl, ?_⟩
      intro ac F
      replace G := G.trans g
      replace hC := hC.gr g
      replace hf := hf.gr g
      replace hx := hx.gr g
      replace hy := hy.gr g
      replace hm := hm.gr g
      clear g
      refine X.pval F (X.w0 rfl) rfl (X.assign rfl (F.ev 33 (.bool true) (by kernel_rfl))) ?_
      clear F ac
      intro ac F
      refine wpList_nil ?_
      replace F : Fr ac 248 [(0, .agg #[.slice ta tn tc, .slice ca cn cc]), (1, .agg #[.slice a n c, .slice b m d]), (2, .agg #[.slice fa fn fc, .slice pa pn pc, .int .i64 bu, .int .i64 dn, .slice ma mn mc]), (3, .pointer (some ⟨w.heap.size, 0, none⟩)), (4, .pointer (some ⟨w3.heap.size, 0, none⟩)), (5, .pointer (some ⟨w4.heap.size, 0, none⟩)), (6, .bool true), (32, .bool true)] := F.sub _ (by kernel_rfl)
      refine X.thenN ?_
      refine wp_ret ?_
      refine X.thenR ?_
      exact X.ret1 F rfl (by kernel_rfl) ⟨rfl, G⟩
  | true =>
    try rw [h7] at F
    refine X.pskip F (X.w2 rfl (F.yl (j := 2) (d := 27) (b := true) rfl (by kernel_rfl)) rfl) rfl ?_
    clear F ac
    intro ac F
    refine X.pskip F (X.w2 rfl (F.yl (j := 2) (d := 27) (b := true) rfl (by kernel_rfl)) rfl) rfl ?_
    clear F ac
    intro ac F
    refine X.pskip F (X.w2 rfl (F.yl (j := 2) (d := 27) (b := true) rfl (by kernel_rfl)) rfl) rfl ?_
    clear F ac
    intro ac F
    refine X.pskip F (X.w2 rfl (F.yl (j := 2) (d := 27) (b := true) rfl (by kernel_rfl)) rfl) rfl ?_
    clear F ac
    intro ac F
    refine X.pval F (X.w0 rfl) rfl (X.pickT rfl (F.ev 27 (.bool true) (by kernel_rfl)) (X.kc (.bool true) rfl)) ?_
    clear F ac
    intro ac F
    refine wpList_nil ?_
    replace F : Fr ac 248 [(0, .agg #[.slice ta tn tc, .slice ca cn cc]), (1, .agg #[.slice a n c, .slice b m d]), (2, .agg #[.slice fa fn fc, .slice pa pn pc, .int .i64 bu, .int .i64 dn, .slice ma mn mc]), (3, .pointer (some ⟨w.heap.size, 0, none⟩)), (4, .pointer (some ⟨w3.heap.size, 0, none⟩)), (5, .pointer (some ⟨w4.heap.size, 0, none⟩)), (6, .bool false), (32, .bool true)] := F.sub _ (by kernel_rfl)
    refine X.thenN ?_
    refine wp_cond_true (F.ev 32 (.bool true) (by kernel_rfl)) ?_
    refine wp_seq ?_
    refine wp_region_lit ?_
    refine X.pcall F (X.w0 rfl) rfl (X.enter (F := 16) rfl (X.kc (.func (.func 16) #[] #[]) rfl) rfl (enters_of Try.func16 (by kernel_rfl) rfl _)) (look_any w6) ?_
    clear F ac
    rintro e w80 ⟨rfl, g⟩
    refine ⟨_, rfl, ?_⟩
    intro ac F
    replace G := G.trans g
    replace hC := hC.gr g
    replace hf := hf.gr g
    replace hx := hx.gr g
    replace hy := hy.gr g
    replace hm := hm.gr g
    clear g
    refine X.pval F (X.w0 rfl) rfl (X.assign rfl (F.ev 33 (.bool true) (by kernel_rfl))) ?_
    clear F ac
    intro ac F
    refine wpList_nil ?_
    replace F : Fr ac 248 [(0, .agg #[.slice ta tn tc, .slice ca cn cc]), (1, .agg #[.slice a n c, .slice b m d]), (2, .agg #[.slice fa fn fc, .slice pa pn pc, .int .i64 bu, .int .i64 dn, .slice ma mn mc]), (3, .pointer (some ⟨w.heap.size, 0, none⟩)), (4, .pointer (some ⟨w3.heap.size, 0, none⟩)), (5, .pointer (some ⟨w4.heap.size, 0, none⟩)), (6, .bool true), (32, .bool true)] := F.sub _ (by kernel_rfl)
    refine X.thenN ?_
    refine wp_ret ?_
    refine X.thenR ?_
    exact X.ret1 F rfl (by kernel_rfl) ⟨rfl, G⟩
end Go.Proofs.Ytlilojpnhmfnaaa
