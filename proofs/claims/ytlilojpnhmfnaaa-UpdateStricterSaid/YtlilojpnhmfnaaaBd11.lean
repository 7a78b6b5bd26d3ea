/- Several texts of this claim in one file. (1) Contract: slices.Compare of two states leaves the world as it is. (2) Contract: slices.SortFunc of a list of states; the plain law of the order. (3) What the search holds in memory while it runs. Nothing of the program is proved here. (4) Plain words for Reach; budgets. No program in sight. (5) Contracts: the oldest and the newest state. (6) Contract: Count. -/
import Derived.Test.YtlilojpnhmfnaaaBd8
import Derived.Test.YtlilojpnhmfnaaaShelf
import Derived.Test.YtlilojpnhmfnaaaBd9
import Derived.Test.YtlilojpnhmfnaaaBd2
import Derived.Test.YtlilojpnhmfnaaaBd6
import Derived.Test.YtlilojpnhmfnaaaBd7
namespace Go.Proofs.Ytlilojpnhmfnaaa
section
open Go.RowKit

set_option maxRecDepth 100000 in
set_option maxHeartbeats 400000 in
theorem cmpL_same (a b : Option Addr) (n c m d : Nat) (xs ys : List Int) (w : World) (hx : Ints w a n xs) (hy : Ints w b m ys) :
    Calls Try.prog 85 #[.slice a n c, .slice b m d] w fun e w' => e = .returned (.int .i64 (cmpL xs ys)) ∧ w' = w := by
  have G := Gr.refl w
  refine X.calls 36 Try.func85 rfl rfl ?_
  intro ac F0
  have F : Fr ac 36 [(0, .slice a n c), (1, .slice b m d)] := F0.sub _ (by kernel_rfl)
  clear F0
  refine wp_seq ?_
  refine wp_region_lit ?_
  refine X.pval F (X.w0 rfl) rfl (X.assign rfl (X.kc (.int .i64 0) rfl)) ?_
  clear F ac
  intro ac F
  refine wpList_nil ?_
  replace F : Fr ac 36 [(0, .slice a n c), (1, .slice b m d), (4, .int .i64 0)] := F.sub _ (by kernel_rfl)
  refine X.thenN ?_
  refine wp_seq ?_
  refine wp_seq ?_
  refine wp_region_lit ?_
  refine X.pval F (X.w0 rfl) rfl (X.move rfl (F.ev 0 (.slice a n c) (by kernel_rfl))) ?_
  clear F ac
  intro ac F
  refine X.pval F (X.w0 rfl) rfl (X.len1 Try.underlying26 rfl (F.ev 9 (.slice a n c) (by kernel_rfl))) ?_
  clear F ac
  intro ac F
  refine X.pval F (X.w0 rfl) rfl (X.move rfl (X.kc (.int .i64 0) rfl)) ?_
  clear F ac
  intro ac F
  refine wpList_nil ?_
  replace F : Fr ac 36 [(0, .slice a n c), (1, .slice b m d), (4, .int .i64 0), (9, .slice a n c), (10, .int .i64 n), (11, .int .i64 0)] := F.sub _ (by kernel_rfl)
  refine X.thenN ?_
  refine wp_block ?_
  have hxB := hx
  have hyB := hy
  have GB := G
  refine wp_loop_ghost (fun me_ ac wr => ∃ (k : Nat), me_ = n - k ∧ Gr w wr ∧ k ≤ n ∧ k ≤ m ∧ Hid (cmpL xs ys = cmpL (xs.drop k) (ys.drop k)) ∧ wr = w ∧ Fr ac 36 [(0, .slice a n c), (1, .slice b m d), (9, .slice a n c), (10, .int .i64 n), (11, .int .i64 k)]) _ ⟨0, rfl, Gr.refl _, Nat.zero_le _, Nat.zero_le _, Lib.hid rfl, rfl, F.sub _ (by kernel_rfl)⟩ ?_
  clear F
  intro me_ ac w3 hI
  obtain ⟨k, rfl, gr, hk, hm, HC, hww, F⟩ := hI
  replace G := GB.trans gr
  replace hx := hxB.gr gr
  replace hy := hyB.gr gr
  have GB_ := gr
  clear gr
  obtain rfl : w = w3 := hww.symm
  refine wp_seq ?_
  refine wp_region_lit ?_
  refine X.pval F (X.w0 rfl) rfl (X.binop rfl (F.ev 11 (.int .i64 k) (by kernel_rfl)) (F.ev 10 (.int .i64 n) (by kernel_rfl)) (X.lssI Try.underlying3 rfl)) ?_
  clear F ac
  intro ac F
  refine wpList_nil ?_
  replace F : Fr ac 36 [(0, .slice a n c), (1, .slice b m d), (9, .slice a n c), (10, .int .i64 n), (11, .int .i64 k), (12, .bool (decide ((k : Int) < n)))] := F.sub _ (by kernel_rfl)
  refine X.thenN ?_
  refine wp_seq ?_
  cases h4 : decide ((k : Int) < n) with
  | false =>
    try rw [h4] at F
    have h4p : ¬ ((k : Int) < n) := of_decide_eq_false h4
    have hkn : k = xs.length := by have := hx.len; omega
    refine wp_cond_false (F.ev 12 (.bool false) (by kernel_rfl)) ?_
    refine wp_exit ?_
    refine X.thenX ?_
    refine X.thenX ?_
    refine X.blockX ?_
    refine X.thenN ?_
    refine wp_seq ?_
    refine wp_seq ?_
    refine wp_region_lit ?_
    refine X.pval F (X.w0 rfl) rfl (X.move rfl (F.ev 0 (.slice a n c) (by kernel_rfl))) ?_
    clear F ac
    intro ac F
    refine X.pval F (X.w0 rfl) rfl (X.len1 Try.underlying26 rfl (F.ev 31 (.slice a n c) (by kernel_rfl))) ?_
    clear F ac
    intro ac F
    refine X.pval F (X.w0 rfl) rfl (X.move rfl (F.ev 1 (.slice b m d) (by kernel_rfl))) ?_
    clear F ac
    intro ac F
    refine X.pval F (X.w0 rfl) rfl (X.len1 Try.underlying26 rfl (F.ev 33 (.slice b m d) (by kernel_rfl))) ?_
    clear F ac
    intro ac F
    refine X.pval F (X.w0 rfl) rfl (X.binop rfl (F.ev 32 (.int .i64 n) (by kernel_rfl)) (F.ev 34 (.int .i64 m) (by kernel_rfl)) (X.lssI Try.underlying3 rfl)) ?_
    clear F ac
    intro ac F
    refine wpList_nil ?_
    replace F : Fr ac 36 [(0, .slice a n c), (1, .slice b m d), (9, .slice a n c), (10, .int .i64 n), (11, .int .i64 k), (12, .bool false), (35, .bool (decide ((n : Int) < m)))] := F.sub _ (by kernel_rfl)
    refine X.thenN ?_
    cases h5 : decide ((n : Int) < m) with
    | false =>
      try rw [h5] at F
      have h5p : ¬ ((n : Int) < m) := of_decide_eq_false h5
      have HR : cmpL xs ys = 0 := by rw [HC.out]; exact cmp_0 hkn (by have := hx.len; have := hy.len; omega)
      refine wp_cond_false (F.ev 35 (.bool false) (by kernel_rfl)) ?_
      refine wp_skip ?_
      refine X.thenN ?_
      refine wp_seq ?_
      refine wp_region_lit ?_
      refine X.pval F (X.w0 rfl) rfl (X.assign rfl (X.kc (.int .i64 0) rfl)) ?_
      clear F ac
      intro ac F
      refine wpList_nil ?_
      replace F : Fr ac 36 [(0, .slice a n c), (1, .slice b m d), (4, .int .i64 0), (9, .slice a n c), (10, .int .i64 n), (11, .int .i64 k), (12, .bool false), (35, .bool false)] := F.sub _ (by kernel_rfl)
      refine X.thenN ?_
      refine wp_ret ?_
      exact X.ret1 (v := .int .i64 0) F rfl (by kernel_rfl) ⟨by rw [HR], rfl⟩
    | true =>
      try rw [h5] at F
      have h5p : ((n : Int) < m) := of_decide_eq_true h5
      have HR : cmpL xs ys = -1 := by rw [HC.out]; exact cmp_lt hkn (by have := hx.len; have := hy.len; omega)
      refine wp_cond_true (F.ev 35 (.bool true) (by kernel_rfl)) ?_
      refine wp_seq ?_
      refine wp_region_lit ?_
      refine X.pval F (X.w0 rfl) rfl (X.assign rfl (X.kc (.int .i64 (-1)) rfl)) ?_
      clear F ac
      intro ac F
      refine wpList_nil ?_
      replace F : Fr ac 36 [(0, .slice a n c), (1, .slice b m d), (4, .int .i64 (-1)), (9, .slice a n c), (10, .int .i64 n), (11, .int .i64 k), (12, .bool false), (35, .bool true)] := F.sub _ (by kernel_rfl)
      refine X.thenN ?_
      refine wp_ret ?_
      refine X.thenR ?_
      exact X.ret1 (v := .int .i64 (-1)) F rfl (by kernel_rfl) ⟨by rw [HR], rfl⟩
  | true =>
    try rw [h4] at F
    have h4p : ((k : Int) < n) := of_decide_eq_true h4
    have hlt : k < n := by omega
    have hln := hx.2.1
    obtain ⟨pd, hpa, hpb, hpc⟩ := hx.at hlt
    subst hpa
    have hC : RCells w [(pd.add k, .int .i64 (xs[k]?.getD 0))] := (RCells.cons hpc (RCells.nil _))
    refine wp_cond_true (F.ev 12 (.bool true) (by kernel_rfl)) ?_
    refine wp_skip ?_
    refine X.thenN ?_
    refine wp_seq ?_
    refine wp_block ?_
    refine wp_seq ?_
    refine wp_region_lit ?_
    refine X.pval F (X.w0 rfl) rfl (X.move rfl (F.ev 11 (.int .i64 k) (by kernel_rfl))) ?_
    clear F ac
    intro ac F
    refine X.pval F (X.w0 rfl) rfl (X.index rfl (F.ev 9 (.slice (some pd) n c) (by kernel_rfl)) (F.ev 11 (.int .i64 k) (by kernel_rfl)) (X.idx Try.underlying26 (Try.siz3 _) (by omega) rfl (by rw [Nat.mul_one]))) ?_
    clear F ac
    intro ac F
    refine X.pval F (X.w0 rfl) rfl (X.load rfl (F.ev 14 (.pointer (some (pd.add k))) (by kernel_rfl)) (X.ld1 (Try.agg3 _) (hC.at 0 rfl))) ?_
    clear F ac
    intro ac F
    refine X.pval F (X.w0 rfl) rfl (X.assign rfl (F.ev 13 (.int .i64 k) (by kernel_rfl))) ?_
    clear F ac
    intro ac F
    refine X.pval F (X.w0 rfl) rfl (X.assign rfl (F.ev 15 (.int .i64 (xs[k]?.getD 0)) (by kernel_rfl))) ?_
    clear F ac
    intro ac F
    refine wpList_nil ?_
    replace F : Fr ac 36 [(0, .slice (some pd) n c), (1, .slice b m d), (5, .int .i64 k), (6, .int .i64 (xs[k]?.getD 0)), (9, .slice (some pd) n c), (10, .int .i64 n), (11, .int .i64 k), (12, .bool true)] := F.sub _ (by kernel_rfl)
    refine X.thenN ?_
    refine wp_seq ?_
    refine wp_seq ?_
    refine wp_region_lit ?_
    refine X.pval F (X.w0 rfl) rfl (X.move rfl (F.ev 5 (.int .i64 k) (by kernel_rfl))) ?_
    clear F ac
    intro ac F
    refine X.pval F (X.w0 rfl) rfl (X.move rfl (F.ev 1 (.slice b m d) (by kernel_rfl))) ?_
    clear F ac
    intro ac F
    refine X.pval F (X.w0 rfl) rfl (X.len1 Try.underlying26 rfl (F.ev 17 (.slice b m d) (by kernel_rfl))) ?_
    clear F ac
    intro ac F
    refine X.pval F (X.w0 rfl) rfl (X.binop rfl (F.ev 16 (.int .i64 k) (by kernel_rfl)) (F.ev 18 (.int .i64 m) (by kernel_rfl)) (X.geqI Try.underlying3 rfl)) ?_
    clear F ac
    intro ac F
    refine wpList_nil ?_
    replace F : Fr ac 36 [(0, .slice (some pd) n c), (1, .slice b m d), (5, .int .i64 k), (6, .int .i64 (xs[k]?.getD 0)), (9, .slice (some pd) n c), (10, .int .i64 n), (11, .int .i64 k), (12, .bool true), (19, .bool (decide ((m : Int) ≤ k)))] := F.sub _ (by kernel_rfl)
    refine X.thenN ?_
    cases h6 : decide ((m : Int) ≤ k) with
    | false =>
      try rw [h6] at F
      have h6p : ¬ ((m : Int) ≤ k) := of_decide_eq_false h6
      have hlm : k < m := by omega
      obtain ⟨qd, hqa, hqb, hqc⟩ := hy.at hlm
      subst hqa
      replace hC : RCells w [(pd.add k, .int .i64 (xs[k]?.getD 0)), (qd.add k, .int .i64 (ys[k]?.getD 0))] := hC.append ((RCells.cons hqc (RCells.nil _)))
      refine wp_cond_false (F.ev 19 (.bool false) (by kernel_rfl)) ?_
      refine wp_skip ?_
      refine X.thenN ?_
      refine wp_seq ?_
      refine wp_region_lit ?_
      refine X.pval F (X.w0 rfl) rfl (X.move rfl (F.ev 1 (.slice (some qd) m d) (by kernel_rfl))) ?_
      clear F ac
      intro ac F
      refine X.pval F (X.w0 rfl) rfl (X.move rfl (F.ev 5 (.int .i64 k) (by kernel_rfl))) ?_
      clear F ac
      intro ac F
      refine X.pval F (X.w0 rfl) rfl (X.index rfl (F.ev 20 (.slice (some qd) m d) (by kernel_rfl)) (F.ev 21 (.int .i64 k) (by kernel_rfl)) (X.idx Try.underlying26 (Try.siz3 _) (by omega) rfl (by rw [Nat.mul_one]))) ?_
      clear F ac
      intro ac F
      refine X.pval F (X.w0 rfl) rfl (X.load rfl (F.ev 22 (.pointer (some (qd.add k))) (by kernel_rfl)) (X.ld1 (Try.agg3 _) (hC.at 1 rfl))) ?_
      clear F ac
      intro ac F
      refine X.pval F (X.w0 rfl) rfl (X.assign rfl (F.ev 23 (.int .i64 (ys[k]?.getD 0)) (by kernel_rfl))) ?_
      clear F ac
      intro ac F
      refine wpList_nil ?_
      replace F : Fr ac 36 [(0, .slice (some pd) n c), (1, .slice (some qd) m d), (5, .int .i64 k), (6, .int .i64 (xs[k]?.getD 0)), (7, .int .i64 (ys[k]?.getD 0)), (9, .slice (some pd) n c), (10, .int .i64 n), (11, .int .i64 k), (12, .bool true), (19, .bool false)] := F.sub _ (by kernel_rfl)
      refine X.thenN ?_
      refine wp_seq ?_
      refine wp_region_lit ?_
      refine X.pval F (X.w0 rfl) rfl (X.move rfl (F.ev 6 (.int .i64 (xs[k]?.getD 0)) (by kernel_rfl))) ?_
      clear F ac
      intro ac F
      refine X.pval F (X.w0 rfl) rfl (X.move rfl (F.ev 7 (.int .i64 (ys[k]?.getD 0)) (by kernel_rfl))) ?_
      clear F ac
      intro ac F
      refine X.pcall F (X.w0 rfl) rfl (X.enter (F := 83) rfl (X.kc (.func (.func 83) #[] #[]) rfl) (X.a2 (F.ev 24 (.int .i64 (xs[k]?.getD 0)) (by kernel_rfl)) (F.ev 25 (.int .i64 (ys[k]?.getD 0)) (by kernel_rfl))) (enters_of Try.func83 (by kernel_rfl) rfl _)) (compare_any (xs[k]?.getD 0) (ys[k]?.getD 0) w) ?_
      clear F ac
      rintro e w' ⟨rfl, rfl⟩
      refine ⟨_, rfl, ?_⟩
      intro ac F
      refine X.pval F (X.w0 rfl) rfl (X.assign rfl (F.ev 26 (.int .i64 (cmpI (xs[k]?.getD 0) (ys[k]?.getD 0))) (by kernel_rfl))) ?_
      clear F ac
      intro ac F
      refine wpList_nil ?_
      replace F : Fr ac 36 [(0, .slice (some pd) n c), (1, .slice (some qd) m d), (5, .int .i64 k), (6, .int .i64 (xs[k]?.getD 0)), (7, .int .i64 (ys[k]?.getD 0)), (8, .int .i64 (cmpI (xs[k]?.getD 0) (ys[k]?.getD 0))), (9, .slice (some pd) n c), (10, .int .i64 n), (11, .int .i64 k), (12, .bool true), (19, .bool false)] := F.sub _ (by kernel_rfl)
      refine X.thenN ?_
      refine wp_seq ?_
      refine wp_region_lit ?_
      refine X.pval F (X.w0 rfl) rfl (X.move rfl (F.ev 8 (.int .i64 (cmpI (xs[k]?.getD 0) (ys[k]?.getD 0))) (by kernel_rfl))) ?_
      clear F ac
      intro ac F
      refine X.pval F (X.w0 rfl) rfl (X.binop rfl (F.ev 27 (.int .i64 (cmpI (xs[k]?.getD 0) (ys[k]?.getD 0))) (by kernel_rfl)) (X.kc (.int .i64 0) rfl) (X.neqI Try.underlying3 rfl)) ?_
      clear F ac
      intro ac F
      refine wpList_nil ?_
      replace F : Fr ac 36 [(0, .slice (some pd) n c), (1, .slice (some qd) m d), (5, .int .i64 k), (6, .int .i64 (xs[k]?.getD 0)), (7, .int .i64 (ys[k]?.getD 0)), (8, .int .i64 (cmpI (xs[k]?.getD 0) (ys[k]?.getD 0))), (9, .slice (some pd) n c), (10, .int .i64 n), (11, .int .i64 k), (12, .bool true), (19, .bool false), (28, .bool ((cmpI (xs[k]?.getD 0) (ys[k]?.getD 0) : Int) != 0))] := F.sub _ (by kernel_rfl)
      refine X.thenN ?_
      cases h7 : ((cmpI (xs[k]?.getD 0) (ys[k]?.getD 0) : Int) != 0) with
      | false =>
        try rw [h7] at F
        have h7p : (cmpI (xs[k]?.getD 0) (ys[k]?.getD 0) : Int) = 0 := by simpa using h7
        have HC2 : Hid (cmpL xs ys = cmpL (xs.drop (k + 1)) (ys.drop (k + 1))) := Lib.hid (by rw [HC.out]; exact cmp_eq (by rw [hx.len]; exact hlt) (by rw [hy.len]; exact hlm) h7p)
        refine wp_cond_false (F.ev 28 (.bool false) (by kernel_rfl)) ?_
        refine wp_skip ?_
        refine X.blockN ?_
        refine X.thenN ?_
        refine wp_region_lit ?_
        refine X.pval F (X.w0 rfl) rfl (X.binop rfl (F.ev 11 (.int .i64 k) (by kernel_rfl)) (X.kc (.int .i64 1) rfl) (X.addI Try.underlying3 rfl (by omega) (by omega))) ?_
        clear F ac
        intro ac F
        refine X.pval F (X.w0 rfl) rfl (X.move rfl (F.ev 30 (.int .i64 ((k : Int) + 1)) (by kernel_rfl))) ?_
        clear F ac
        intro ac F
        refine wpList_nil ?_
        replace F : Fr ac 36 [(0, .slice (some pd) n c), (1, .slice (some qd) m d), (5, .int .i64 k), (6, .int .i64 (xs[k]?.getD 0)), (7, .int .i64 (ys[k]?.getD 0)), (8, .int .i64 (cmpI (xs[k]?.getD 0) (ys[k]?.getD 0))), (9, .slice (some pd) n c), (10, .int .i64 n), (11, .int .i64 ((k : Int) + 1)), (12, .bool true), (19, .bool false), (28, .bool false)] := F.sub _ (by kernel_rfl)
        refine X.thenN ?_
        refine ⟨_, ?_, k + 1, rfl, GB_, by omega, by omega, HC2, rfl, F.sub _ (by kernel_rfl)⟩
        omega
      | true =>
        try rw [h7] at F
        have h7p : ¬ (cmpI (xs[k]?.getD 0) (ys[k]?.getD 0) : Int) = 0 := by simpa using h7
        have HR : cmpL xs ys = cmpI (xs[k]?.getD 0) (ys[k]?.getD 0) := by rw [HC.out]; exact cmp_ne (by rw [hx.len]; exact hlt) (by rw [hy.len]; exact hlm) h7p
        refine wp_cond_true (F.ev 28 (.bool true) (by kernel_rfl)) ?_
        refine wp_seq ?_
        refine wp_region_lit ?_
        refine X.pval F (X.w0 rfl) rfl (X.move rfl (F.ev 8 (.int .i64 (cmpI (xs[k]?.getD 0) (ys[k]?.getD 0))) (by kernel_rfl))) ?_
        clear F ac
        intro ac F
        refine X.pval F (X.w0 rfl) rfl (X.assign rfl (F.ev 29 (.int .i64 (cmpI (xs[k]?.getD 0) (ys[k]?.getD 0))) (by kernel_rfl))) ?_
        clear F ac
        intro ac F
        refine wpList_nil ?_
        replace F : Fr ac 36 [(0, .slice (some pd) n c), (1, .slice (some qd) m d), (4, .int .i64 (cmpI (xs[k]?.getD 0) (ys[k]?.getD 0))), (5, .int .i64 k), (6, .int .i64 (xs[k]?.getD 0)), (7, .int .i64 (ys[k]?.getD 0)), (8, .int .i64 (cmpI (xs[k]?.getD 0) (ys[k]?.getD 0))), (9, .slice (some pd) n c), (10, .int .i64 n), (11, .int .i64 k), (12, .bool true), (19, .bool false), (28, .bool true)] := F.sub _ (by kernel_rfl)
        refine X.thenN ?_
        refine wp_ret ?_
        refine X.blockR ?_
        refine X.thenR ?_
        refine X.thenR ?_
        refine X.blockR ?_
        refine X.thenR ?_
        exact X.ret1 (v := .int .i64 (cmpI (xs[k]?.getD 0) (ys[k]?.getD 0))) F rfl (by kernel_rfl) ⟨by rw [HR], rfl⟩
    | true =>
      try rw [h6] at F
      have h6p : ((m : Int) ≤ k) := of_decide_eq_true h6
      have HR : cmpL xs ys = 1 := by rw [HC.out]; exact cmp_1 (by rw [hx.len]; exact hlt) (by have := hy.len; omega)
      refine wp_cond_true (F.ev 19 (.bool true) (by kernel_rfl)) ?_
      refine wp_seq ?_
      refine wp_region_lit ?_
      refine X.pval F (X.w0 rfl) rfl (X.assign rfl (X.kc (.int .i64 1) rfl)) ?_
      clear F ac
      intro ac F
      refine wpList_nil ?_
      replace F : Fr ac 36 [(0, .slice (some pd) n c), (1, .slice b m d), (4, .int .i64 1), (5, .int .i64 k), (6, .int .i64 (xs[k]?.getD 0)), (9, .slice (some pd) n c), (10, .int .i64 n), (11, .int .i64 k), (12, .bool true), (19, .bool true)] := F.sub _ (by kernel_rfl)
      refine X.thenN ?_
      refine wp_ret ?_
      refine X.thenR ?_
      refine X.blockR ?_
      refine X.thenR ?_
      refine X.thenR ?_
      refine X.blockR ?_
      refine X.thenR ?_
      exact X.ret1 (v := .int .i64 1) F rfl (by kernel_rfl) ⟨by rw [HR], rfl⟩
end
section
open Go.RowKit Go.Sort

theorem cmpI_vals (x y : Int) : (x < y ∧ cmpI x y = -1) ∨ (x = y ∧ cmpI x y = 0) ∨ (y < x ∧ cmpI x y = 1) := by
  unfold cmpI
  split
  · left; omega
  · split <;> omega
theorem cmpL_trans : ∀ (x y z : List Int), cmpL x y ≤ 0 → cmpL y z ≤ 0 → cmpL x z ≤ 0 ∧ (cmpL x z = 0 → cmpL x y = 0 ∧ cmpL y z = 0) := by
  intro x
  induction x with
  | nil =>
    intro y z h1 h2
    cases y with
    | nil => exact ⟨h2, fun h => ⟨rfl, h⟩⟩
    | cons b y =>
      cases z with
      | nil => simp [cmpL] at h2
      | cons c z => exact ⟨by simp [cmpL], fun h => by simp [cmpL] at h⟩
  | cons a x ih =>
    intro y z h1 h2
    cases y with
    | nil => simp [cmpL] at h1
    | cons b y =>
      cases z with
      | nil => simp [cmpL] at h2
      | cons c z =>
        simp only [cmpL] at h1 h2 ⊢
        rcases cmpI_vals a b with ⟨k1, e1⟩ | ⟨k1, e1⟩ | ⟨k1, e1⟩
        · rcases cmpI_vals b c with ⟨k2, e2⟩ | ⟨k2, e2⟩ | ⟨k2, e2⟩
          · have : cmpI a c = -1 := by rcases cmpI_vals a c with h | h | h <;> omega
            rw [this]; simp
          · subst k2; rw [e1]; simp
          · rw [e2] at h2; simp at h2
        · subst k1
          rcases cmpI_vals a c with ⟨k2, e2⟩ | ⟨k2, e2⟩ | ⟨k2, e2⟩
          · rw [e2]; simp
          · subst k2
            rw [e2] at h1 h2 ⊢
            simp only [if_true] at h1 h2 ⊢
            exact ih y z h1 h2
          · rw [e2] at h2; simp at h2
        · rw [e1] at h1; simp at h1
theorem cmpL_swo {α : Type} (L : α → List Int) : SWO (ltOf fun i j => cmpL (L i) (L j)) where
  irrefl x := by simp [ltOf, cmpL_self]
  trans x y z h1 h2 := by
    simp only [ltOf, decide_eq_true_eq] at *
    have h := cmpL_trans (L x) (L y) (L z) (by omega) (by omega)
    by_cases e : cmpL (L x) (L z) = 0
    · have := h.2 e; omega
    · omega
  ntrans x y z h1 h2 := by
    simp only [ltOf, decide_eq_false_iff_not] at *
    have a1 := cmpL_anti (L x) (L y)
    have a2 := cmpL_anti (L y) (L z)
    have a3 := cmpL_anti (L x) (L z)
    have h := cmpL_trans (L z) (L y) (L x) (by omega) (by omega)
    omega

/-- what a sorted list of states is -/
theorem sort_any {B : Nat} {N : Nat → Prop} {W : World} {v : Value} {O : List (List Int)} (hO : OutN W B N v O) (h0 : 0 < O.length) (hl : O.length ≤ 1000000) :
    Calls Try.prog 87 #[v, .func (.func 85) #[] #[]] W fun e w' => e = .returned (.tuple #[]) ∧ ∃ (g c : Nat) (O' : List (List Int)), v = .slice (some ⟨g, 0, none⟩) O.length c ∧ B ≤ g ∧ ¬ N g ∧ O'.Perm O ∧ (∀ i j, i < j → j < O'.length → 0 ≤ cmpL (O'[j]?.getD []) (O'[i]?.getD [])) ∧ (∀ (S : Nat → Prop) (W2 : World), Only S w' W2 → (∀ b, S b → N b) → RowsAt W2 (some ⟨g, 0, none⟩) O.length O') ∧ Only (fun b => b = g) W w' := by
  obtain ⟨g, c, xs, rfl, ⟨cur, hg⟩, hBg, hNg, hcell, hxl, hrow⟩ := hO.shape h0
  have hgl : g < W.heap.size := (Array.getElem?_eq_some_iff.1 hg).1
  obtain ⟨n, hn⟩ : ∃ n, n = O.length := ⟨_, rfl⟩
  let enc : Fin (n + 1) → Value := fun i => xs[i.1]?.getD (.slice none 0 0)
  let cf : Fin (n + 1) → Fin (n + 1) → Int := fun i j => cmpL (O[i.1]?.getD []) (O[j.1]?.getD [])
  let d : Array (Fin (n + 1)) := Array.ofFn (n := n) fun j => ⟨j.1, by omega⟩
  have hds : d.size = O.length := by simp [d, hn]
  have hdj : ∀ j, j < d.size → (d[j]!).1 = j := fun j hj => by
    rw [getElem!_pos d j hj]; simp [d]
  have henc : ∀ i : Fin (n + 1), ∃ a k c, enc i = .slice a k c ∧ Ints W a k (O[i.1]?.getD []) ∧ ∀ ad, a = some ad → Is3 W ad.block ∧ ¬ N ad.block := fun i => by
    by_cases hi : i.1 < O.length
    · obtain ⟨ad, k, c, h1, h2, h3, h4⟩ := hrow i.1 hi
      exact ⟨some ad, k, c, by simp [enc, h1], h2, fun ad' e => by cases e; exact ⟨h3, h4⟩⟩
    · exact ⟨none, 0, 0, by simp [enc, List.getElem?_eq_none (show xs.length ≤ i.1 by omega)], by rw [List.getElem?_eq_none (show O.length ≤ i.1 by omega)]; exact ⟨rfl, by omega, fun j hj => by omega⟩, fun ad e => by cases e⟩
  have hn3 : ¬ Is3 W g := fun ⟨c2, fr, h4⟩ => by
    rw [hg] at h4; injection h4 with h4; injection h4 with _ h5; cases h5
  have hw : ∀ (m : Nat) (os : Array Obj) (dk : Array (Fin (n + 1))), Only (fun b => b = g) W (sortWorld enc W g 0 m dk os) := fun m os dk => by
    refine ⟨rfl, rfl, rfl, by simp [sortWorld], fun b hb hne => ?_⟩
    unfold sortWorld Go.Sort.grow putRow mapBlock Go.Sort.ahead
    simp only
    rw [Array.getElem?_append_left (by simpa using hb), Array.getElem?_modify, if_neg (fun e => hne e.symm)]
  have hcmp : CmpLays1 Try.prog 85 #[] enc cf g 0 d.size W := fun m os dk _ x y => by
    obtain ⟨a, k, c, e1, i1, b1⟩ := henc x
    obtain ⟨a', k', c', e2, i2, b2⟩ := henc y
    rw [e1, e2]
    refine (cmpL_same a a' k c k' c' _ _ _ (i1.onlyAt (hw m os dk) (fun ad e h => hn3 (h ▸ (b1 ad e).1))) (i2.onlyAt (hw m os dk) (fun ad e h => hn3 (h ▸ (b2 ad e).1)))).mono ?_
    rintro e w' ⟨rfl, rfl⟩
    exact ⟨rfl, 0, #[], by simp [World.drewN]⟩
  have hH : Holds enc W g 0 d := fun j hj => by
    have hj' : j < xs.length := by omega
    rw [Nat.zero_add]
    refine ⟨?_, by simp [World.frozen?, hg]⟩
    have h1 := hcell j xs[j] (by simp [hj'])
    rw [h1]
    simp [enc, hdj j hj, hj']
  have h1 : OneCell enc := fun i => by
    obtain ⟨a, k, c, e, _⟩ := henc i
    rw [e]; rfl
  have hS := Any.slices_SortFunc (P := Try.prog) Try.sortL enc h1 cf (cmpL_swo fun i : Fin (n + 1) => O[i.1]?.getD []) 85 #[] g 0 c d W (Go.Proofs.enters_of Try.func85 (by kernel_rfl) rfl) hcmp hH hgl (by omega)
  rw [hds] at hS
  refine hS.mono ?_
  rintro e w' ⟨rfl, d', q, os, hp, hs, rfl⟩
  obtain ⟨hsz, _, hperm⟩ := hp
  have hsz' : d'.size = O.length := by omega
  have hex : ∀ D : Array (Fin (n + 1)), D.size = O.length → D.extract 0 O.length = D := fun D h => by rw [← h]; simp
  rw [hex d hds, hex d' hsz'] at hperm
  have hmap : d.toList.map (fun i => O[i.1]?.getD []) = O := by
    apply List.ext_getElem
    · simpa using hds
    · intro j h1 h2
      have hj : j < d.size := by simpa using h1
      have := hdj j hj
      rw [getElem!_pos d j hj] at this
      simp [this, h2]
  have hget : ∀ j, j < d'.size → (d'.toList.map (fun i => O[i.1]?.getD []))[j]?.getD [] = O[(d'[j]!).1]?.getD [] := fun j hj => by
    rw [getElem!_pos d' j hj]; simp [hj]
  refine ⟨rfl, g, c, d'.toList.map (fun i => O[i.1]?.getD []), rfl, hBg, hNg, ?_, fun i j hij hj => ?_, ?_, hw _ _ _⟩
  · have := hperm.map (fun i => O[i.1]?.getD [])
    rwa [hmap] at this
  · have hj' : j < d'.size := by simpa using hj
    have := hs i j (Nat.zero_le _) hij (by omega)
    rw [hget j hj', hget i (by omega)]
    have h2 := of_decide_eq_false this
    simp only [cf] at h2
    omega
  · intro S W2 hon hS
    refine ⟨by simpa using hsz', by omega, fun j hj => ?_⟩
    have hj' : j < d'.size := by omega
    obtain ⟨a, k, c, e, i1, b1⟩ := henc d'[j]!
    have hSW : SW enc W g 0 d' (sortWorld enc W g 0 q d' os) := ⟨q, os, rfl⟩
    have hh := (hSW.holds hgl hH hsz j hj').1
    refine ⟨⟨g, 0, none⟩, a, k, c, rfl, Nat.lt_of_lt_of_le hgl (Nat.le_trans (hw _ _ _).size hon.size), ?_, ?_⟩
    · have e2 : (⟨g, 0, none⟩ : Addr).add j = ⟨g, 0 + j, none⟩ := by
        cases j <;> simp [Addr.add]
      rw [← e, e2]
      exact hon.cell hh (fun h => hNg (hS _ h))
    · rw [hget j hj']
      exact (i1.onlyAt (hw q os d') (fun ad e h => hn3 (h ▸ (b1 ad e).1))).onlyAt hon (fun ad e h => (b1 ad e).2 (hS _ h))
end
section
open Go.RowKit

theorem RCells.only {S : Nat → Prop} {w w' : World} {L : List (Addr × Value)} (h : RCells w L) (g : Only S w w') (hs : ∀ p ∈ L, ¬ S p.1.block) : RCells w' L := fun p hp => g.cell (h p hp) (hs p hp)
def N0 (b3 b5 b6 b9 bm : Nat) : Nat → Prop := fun b => b = b3 ∨ b = b5 ∨ b = b6 ∨ b = b9 ∨ b = bm
def NM (b3 b5 b6 b9 bm : Nat) (ks : List Nat) : Nat → Prop := fun b => N0 b3 b5 b6 b9 bm b ∨ b ∈ ks
def NK (b3 b5 b6 b9 bm : Nat) (ks : List Nat) (k : Nat) : Nat → Prop := fun b => NM b3 b5 b6 b9 bm (k :: ks) b ∨ b = k + 1 ∨ b = k + 4
/-- the marks of the ranges before -/
structure Mk (lo hi : Nat) (ks : List Nat) (W : World) : Prop where
  h : ∀ k ∈ ks, W.heap[k]? = some (.deferred (some []))
  b : ∀ k ∈ ks, lo < k ∧ k < hi
theorem Mk.only {S : Nat → Prop} {lo hi : Nat} {ks : List Nat} {W W' : World} (h : Mk lo hi ks W) (g : Only S W W') (hs : ∀ b, S b → ¬ b ∈ ks) : Mk lo hi ks W' :=
  ⟨fun k hk => (g.block k (Array.getElem?_eq_some_iff.1 (h.h k hk)).1 (fun e => hs k e hk)).trans (h.h k hk), h.b⟩
theorem Mk.gr {lo hi : Nat} {ks : List Nat} {W W' : World} (h : Mk lo hi ks W) (g : Gr W W') : Mk lo hi ks W' := h.only (g.only (fun _ => False)) (fun _ e => e.elim)
theorem Mk.lt {lo hi k : Nat} {ks : List Nat} {W : World} (h : Mk lo hi ks W) (hk : k ∈ ks) : k < W.heap.size := (Array.getElem?_eq_some_iff.1 (h.h k hk)).1
theorem Mk.cons {lo hi hi' k : Nat} {ks : List Nat} {W : World} (h : Mk lo hi ks W) (hk : W.heap[k]? = some (.deferred (some []))) (h1 : lo < k) (h2 : k < hi') (h3 : hi ≤ hi') : Mk lo hi' (k :: ks) W :=
  ⟨fun j hj => by rcases List.mem_cons.1 hj with e | e; (subst e; exact hk); exact h.h j e, fun j hj => by rcases List.mem_cons.1 hj with e | e; (subst e; exact ⟨h1, h2⟩); (have := h.b j e; omega)⟩

/-- the memory of the search -/
structure RS (w : World) (ta : Option Addr) (tn tc : Nat) (ca : Option Addr) (cn cc : Nat) (bu : Int) (b3 b5 b6 b9 bm : Nat) (N : Nat → Prop) (W : World) (v u : Value) (O Os : List (List Int)) : Prop where
  g0 : Gr w W
  c0 : W.cell? ⟨b3, 0, none⟩ = some (.slice ta tn tc)
  c1 : W.cell? ⟨b3, 1, none⟩ = some (.slice ca cn cc)
  c5 : W.cell? ⟨b5, 0, none⟩ = some (.int .i64 bu)
  c9 : W.cell? ⟨b9, 0, none⟩ = some (.map (some bm))
  c6 : W.cell? ⟨b6, 0, none⟩ = some v
  f6 : W.frozen? ⟨b6, 0, none⟩ = false
  sn : Seen W bm Os
  out : OutN W w.heap.size N u O
  nu : w.heap.size ≤ b3 ∧ b3 < b5 ∧ b5 < b6 ∧ b6 < bm ∧ bm < b9
  nN : ∀ b, N0 b3 b5 b6 b9 bm b → N b
section
variable {w : World} {ta ca : Option Addr} {tn tc cn cc : Nat} {bu : Int} {b3 b5 b6 b9 bm : Nat} {N S : Nat → Prop} {W W' : World} {v u : Value} {O Os : List (List Int)}
theorem RS.n9 (h : RS w ta tn tc ca cn cc bu b3 b5 b6 b9 bm N W v u O Os) : b9 < W.heap.size := lt_cell h.c9
theorem RS.only (h : RS w ta tn tc ca cn cc bu b3 b5 b6 b9 bm N W v u O Os) (g : Only S W W') (hs : ∀ b, S b → N b ∧ w.heap.size ≤ b ∧ ¬ N0 b3 b5 b6 b9 bm b) : RS w ta tn tc ca cn cc bu b3 b5 b6 b9 bm N W' v u O Os := by
  have n3 : ¬ S b3 := fun e => (hs _ e).2.2 (.inl rfl)
  have n5 : ¬ S b5 := fun e => (hs _ e).2.2 (.inr (.inl rfl))
  have n6 : ¬ S b6 := fun e => (hs _ e).2.2 (.inr (.inr (.inl rfl)))
  have n9 : ¬ S b9 := fun e => (hs _ e).2.2 (.inr (.inr (.inr (.inl rfl))))
  have nm : ¬ S bm := fun e => (hs _ e).2.2 (.inr (.inr (.inr (.inr rfl))))
  have hb6 := g.block b6 (lt_cell h.c6) n6
  exact ⟨((h.g0.only (fun b => w.heap.size ≤ b)).trans (g.mono' (fun i e => (hs i e).2.1))).gr (fun i hi e => by omega), g.cell h.c0 n3, g.cell h.c1 n3, g.cell h.c5 n5, g.cell h.c9 n9, g.cell h.c6 n6,
    by have := h.f6; unfold World.frozen? at this ⊢; simp only at this ⊢; rw [hb6]; exact this, h.sn.only g nm, h.out.only g (fun b e => (hs b e).1), h.nu, h.nN⟩
theorem RS.gr (h : RS w ta tn tc ca cn cc bu b3 b5 b6 b9 bm N W v u O Os) (g : Gr W W') : RS w ta tn tc ca cn cc bu b3 b5 b6 b9 bm N W' v u O Os := h.only (g.only (fun _ => False)) (fun _ e => e.elim)
theorem RS.to {N' : Nat → Prop} (h : RS w ta tn tc ca cn cc bu b3 b5 b6 b9 bm N W v u O Os) (hn : ∀ b, N0 b3 b5 b6 b9 bm b → N' b) (hs : ∀ b, b < W.heap.size → N' b → N b) : RS w ta tn tc ca cn cc bu b3 b5 b6 b9 bm N' W v u O Os :=
  ⟨h.g0, h.c0, h.c1, h.c5, h.c9, h.c6, h.f6, h.sn, h.out.to hs, h.nu, hn⟩
theorem RS.ge (h : RS w ta tn tc ca cn cc bu b3 b5 b6 b9 bm N W v u O Os) {b : Nat} (hb : N0 b3 b5 b6 b9 bm b) : w.heap.size ≤ b := by
  have := h.nu
  unfold N0 at hb
  omega
/-- a state is seen -/
theorem RS.mapU (h : RS w ta tn tc ca cn cc bu b3 b5 b6 b9 bm N W v u O Os) {s : List Int} (hs : Small s) (hl : ∀ x ∈ Os, x.length = s.length) (h6 : s.length ≤ 6) (hn : ¬ s ∈ Os) :
    ∃ W', (Instr.mapUpdate 86 (.map (some bm)) (keyV s) (.int .i64 1)).run Try.prog W = .ok () W' ∧ RS w ta tn tc ca cn cc bu b3 b5 b6 b9 bm N W' v u O (Os ++ [s]) ∧ Only (fun b => b = bm) W W' := by
  obtain ⟨o, hr, hsn⟩ := seen_store (t := 86) (e := 3) (by kernel_rfl) h.sn hs hl h6 hn
  have g := putObj_only W bm o
  have hnu := h.nu
  have hb6 := g.block b6 (lt_cell h.c6) (by omega)
  refine ⟨_, hr, ?_, g⟩
  exact ⟨((h.g0.only (fun b => w.heap.size ≤ b)).trans (g.mono' (fun i e => by omega))).gr (fun i hi e => by omega), g.cell h.c0 (by show ¬ b3 = bm; omega), g.cell h.c1 (by show ¬ b3 = bm; omega), g.cell h.c5 (by show ¬ b5 = bm; omega), g.cell h.c9 (by show ¬ b9 = bm; omega), g.cell h.c6 (by show ¬ b6 = bm; omega),
    by have := h.f6; unfold World.frozen? at this ⊢; simp only at this ⊢; rw [hb6]; exact this, hsn, h.out.only g (fun b e => h.nN b (by subst e; exact .inr (.inr (.inr (.inr rfl))))), h.nu, h.nN⟩
/-- a list that was appended to -/
theorem RS.app (h : RS w ta tn tc ca cn cc bu b3 b5 b6 b9 bm N W v u O Os) {u' : Value} {O' : List (List Int)} (hO : OutN W' w.heap.size N u' O') (g : Only (fun b => u.ownBlock = some b) W W') : RS w ta tn tc ca cn cc bu b3 b5 b6 b9 bm N W' v u' O' Os := by
  have hN : ∀ b, u.ownBlock = some b → w.heap.size ≤ b ∧ ¬ N0 b3 b5 b6 b9 bm b := fun b e => ⟨(h.out.own e).1, fun k => (h.out.own e).2.2.1 (h.nN b k)⟩
  have n3 : ¬ u.ownBlock = some b3 := fun e => (hN _ e).2 (.inl rfl)
  have n5 : ¬ u.ownBlock = some b5 := fun e => (hN _ e).2 (.inr (.inl rfl))
  have n6 : ¬ u.ownBlock = some b6 := fun e => (hN _ e).2 (.inr (.inr (.inl rfl)))
  have n9 : ¬ u.ownBlock = some b9 := fun e => (hN _ e).2 (.inr (.inr (.inr (.inl rfl))))
  have nm : ¬ u.ownBlock = some bm := fun e => (hN _ e).2 (.inr (.inr (.inr (.inr rfl))))
  have hb6 := g.block b6 (lt_cell h.c6) n6
  exact ⟨((h.g0.only (fun b => w.heap.size ≤ b)).trans (g.mono' (fun i e => (hN i e).1))).gr (fun i hi e => by omega), g.cell h.c0 n3, g.cell h.c1 n3, g.cell h.c5 n5, g.cell h.c9 n9, g.cell h.c6 n6,
    by have := h.f6; unfold World.frozen? at this ⊢; simp only at this ⊢; rw [hb6]; exact this, h.sn.only g nm, hO, h.nu, h.nN⟩
/-- the variable turns -/
theorem RS.set (h : RS w ta tn tc ca cn cc bu b3 b5 b6 b9 bm N W v u O Os) (v' : Value) : RS w ta tn tc ca cn cc bu b3 b5 b6 b9 bm N (W.setCell ⟨b6, 0, none⟩ v') v' u O Os := by
  have g := Y.set_only W b6 0 v'
  have hnu := h.nu
  have hc := h.c6
  have hf := h.f6
  exact ⟨((h.g0.only (fun b => w.heap.size ≤ b)).trans (g.mono' (fun i e => by omega))).gr (fun i hi e => by omega), g.cell h.c0 (by show ¬ b3 = b6; omega), g.cell h.c1 (by show ¬ b3 = b6; omega), g.cell h.c5 (by show ¬ b5 = b6; omega), g.cell h.c9 (by show ¬ b9 = b6; omega), by simp [go_sem, hc], by simpa using hf,
    h.sn.only g (by omega), h.out.only g (fun b e => h.nN b (by subst e; exact .inr (.inr (.inl rfl)))), h.nu, h.nN⟩
end
/-- a state that is handed over -/
structure PX (N : Nat → Prop) (W : World) (ad : Addr) (n : Nat) (x : List Int) : Prop where
  i : Ints W (some ad) n x
  h3 : Is3 W ad.block
  nn : ¬ N ad.block
theorem PX.only {N S : Nat → Prop} {W W' : World} {ad : Addr} {n : Nat} {x : List Int} (h : PX N W ad n x) (g : Only S W W') (hs : ∀ b, S b → N b) : PX N W' ad n x :=
  ⟨h.i.onlyAt g (fun ad' e hS => by cases e; exact h.nn (hs _ hS)), h.h3.only g (fun hS => h.nn (hs _ hS)), h.nn⟩
theorem PX.gr {N : Nat → Prop} {W W' : World} {ad : Addr} {n : Nat} {x : List Int} (h : PX N W ad n x) (g : Gr W W') : PX N W' ad n x := h.only (g.only (fun _ => False)) (fun _ e => e.elim)
structure On (Y : Nat → Prop) (a b : World) : Prop where
  o : Only Y a b
theorem On.gr {Y : Nat → Prop} {a b c : World} (h : On Y a b) (g : Gr b c) : On Y a c := ⟨h.o.thenGr g⟩
theorem On.then {Y S : Nat → Prop} {a b c : World} (h : On Y a b) (g : Only S b c) (hs : ∀ i, S i → Y i) : On Y a c := ⟨h.o.trans (g.mono' hs)⟩
/-- a key in a variable -/
def KeyAt (W : World) (b : Nat) (s : List Int) : Prop := Y.Own W b 6 (fun k => .int .i64 (s[k]?.getD 0))
theorem KeyAt.gr {W W' : World} {b : Nat} {s : List Int} (h : KeyAt W b s) (g : Gr W W') : KeyAt W' b s := Y.Own.gr h g
theorem Try.siz89 (w : World) : (sizeOf 89).run Try.prog w = .ok 6 w := by kernel_rfl
theorem Try.agg89 (w : World) : (isAgg 89).run Try.prog w = .ok true w := by kernel_rfl
theorem Try.new89 (w : World) : (Instr.alloc 89 true (.tuple #[])).run Try.prog w = .ok (.pointer (some ⟨w.heap.size, 0, none⟩)) (w.alloc (.cells #[.int .i64 0, .int .i64 0, .int .i64 0, .int .i64 0, .int .i64 0, .int .i64 0] 89)) := by kernel_rfl
theorem KeyAt.ld {W : World} {b : Nat} {s : List Int} (h : KeyAt W b s) : (Instr.loadAt 89 (.pointer (some ⟨b, 0, none⟩))).run Try.prog W = .ok (keyV s) W := by
  have hc : ∀ k, k < 6 → W.cell? ((⟨b, 0, none⟩ : Addr).add k) = some (.int .i64 (s[k]?.getD 0)) := fun k hk => by
    rw [Y.addr_add, Nat.zero_add]; exact Y.Own.cell h hk
  refine X.ldN (vs := [.int .i64 (s[0]?.getD 0), .int .i64 (s[1]?.getD 0), .int .i64 (s[2]?.getD 0), .int .i64 (s[3]?.getD 0), .int .i64 (s[4]?.getD 0), .int .i64 (s[5]?.getD 0)]) (Try.agg89 _) (Try.siz89 _) (fun j v h => ?_)
  match j with
  | 0 => simp at h; subst h; exact hc 0 (by omega)
  | 1 => simp at h; subst h; exact hc 1 (by omega)
  | 2 => simp at h; subst h; exact hc 2 (by omega)
  | 3 => simp at h; subst h; exact hc 3 (by omega)
  | 4 => simp at h; subst h; exact hc 4 (by omega)
  | 5 => simp at h; subst h; exact hc 5 (by omega)
  | j + 6 => simp at h
theorem key_store {W : World} {b : Nat} (s : List Int) (h : W.heap[b]? = some (.cells #[.int .i64 0, .int .i64 0, .int .i64 0, .int .i64 0, .int .i64 0, .int .i64 0] 89)) :
    ∃ W', (Instr.storeAt 89 (.pointer (some ⟨b, 0, none⟩)) (keyV s)).run Try.prog W = .ok () W' ∧ KeyAt W' b s ∧ Only (fun x => x = b) W W' := by
  have h0 : Y.Own W b 6 (fun _ => .int .i64 0) := Y.Own.new h rfl (fun k hk => by
    have : k = 0 ∨ k = 1 ∨ k = 2 ∨ k = 3 ∨ k = 4 ∨ k = 5 := by omega
    rcases this with rfl | rfl | rfl | rfl | rfl | rfl <;> rfl)
  have a0 := h0.set (k := 0) (.int .i64 (s[0]?.getD 0))
  have a1 := a0.set (k := 1) (.int .i64 (s[1]?.getD 0))
  have a2 := a1.set (k := 2) (.int .i64 (s[2]?.getD 0))
  have a3 := a2.set (k := 3) (.int .i64 (s[3]?.getD 0))
  have a4 := a3.set (k := 4) (.int .i64 (s[4]?.getD 0))
  have a5 := a4.set (k := 5) (.int .i64 (s[5]?.getD 0))
  refine ⟨_, ?_, a5.congr (fun k hk => by
    have : k = 0 ∨ k = 1 ∨ k = 2 ∨ k = 3 ∨ k = 4 ∨ k = 5 := by omega
    rcases this with rfl | rfl | rfl | rfl | rfl | rfl <;> simp), ((((((Y.set_only _ _ _ _).trans (Y.set_only _ _ _ _)).trans (Y.set_only _ _ _ _)).trans (Y.set_only _ _ _ _)).trans (Y.set_only _ _ _ _)).trans (Y.set_only _ _ _ _))⟩
  have c0 := h0.cell (k := 0) (by omega)
  have c1 := a0.cell (k := 1) (by omega)
  have c2 := a1.cell (k := 2) (by omega)
  have c3 := a2.cell (k := 3) (by omega)
  have c4 := a3.cell (k := 4) (by omega)
  have c5 := a4.cell (k := 5) (by omega)
  have f0 := h0.fz 0
  have f1 := a0.fz 1
  have f2 := a1.fz 2
  have f3 := a2.fz 3
  have f4 := a3.fz 4
  have f5 := a4.fz 5
  have e0 : (⟨b, 0, none⟩ : Addr).add 0 = ⟨b, 0, none⟩ := rfl
  have e1 : (⟨b, 0, none⟩ : Addr).add 1 = ⟨b, 1, none⟩ := rfl
  have e2 : (⟨b, 0, none⟩ : Addr).add 2 = ⟨b, 2, none⟩ := rfl
  have e3 : (⟨b, 0, none⟩ : Addr).add 3 = ⟨b, 3, none⟩ := rfl
  have e4 : (⟨b, 0, none⟩ : Addr).add 4 = ⟨b, 4, none⟩ := rfl
  have e5 : (⟨b, 0, none⟩ : Addr).add 5 = ⟨b, 5, none⟩ := rfl
  simp [Instr.storeAt, storeVar, Instr.sureAddr, Try.siz89, storeCells, Value.cells, keyV, go_sem, e0, e1, e2, e3, e4, e5, c0, f0, c1, f1, c2, f2, c3, f3, c4, f4, c5, f5]
namespace X
variable {P : Program} {W W' : World} {ρ : Operand → Value} {o : Oper}
theorem lk {t : TypeId} {x y : Operand} {b : Bool} {p q v : Value} (ho : o.op = .lookup t x y b) (hx : ρ x = p) (hy : ρ y = q) (hr : (Instr.lookup t p q b).run P W = .ok v W) : (execOp ρ o).run P W = .ok (.value v) W := by
  unfold execOp; rw [ho]; simp only [hx, hy]; exact run_v hr
theorem mu {t : TypeId} {x y z : Operand} {p q v : Value} (ho : o.op = .mapUpdate t x y z) (hx : ρ x = p) (hy : ρ y = q) (hz : ρ z = v) (hr : (Instr.mapUpdate t p q v).run P W = .ok () W') : (execOp ρ o).run P W = .ok .skip W' := by
  unfold execOp; rw [ho]; simp only [hx, hy, hz]; exact run_u hr
theorem ins {t : TypeId} {x y z : Operand} {p q v : Value} (ho : o.op = .insert t x y z) (hx : ρ x = p) (hy : ρ y = q) (hz : ρ z = v) (hr : (Instr.mapUpdate t p q v).run P W = .ok () W') : (execOp ρ o).run P W = .ok .skip W' := by
  unfold execOp; rw [ho]; simp only [hx, hy, hz]; exact run_u hr
theorem mm {t : TypeId} (ho : o.op = .makeMap t none) : (execOp ρ o).run P W = .ok (.value (.map (some W.heap.size))) (W.alloc (.map #[] 0)) := by
  unfold execOp; rw [ho]; exact run_v (run_makeMap t W)
end X
theorem Try.new86 (w : World) : (Instr.alloc 86 true (.tuple #[])).run Try.prog w = .ok (.pointer (some ⟨w.heap.size, 0, none⟩)) (w.alloc (.cells #[.map none] 86)) := by kernel_rfl
theorem Try.new22 (w : World) : (Instr.alloc 22 true (.tuple #[])).run Try.prog w = .ok (.pointer (some ⟨w.heap.size, 0, none⟩)) (w.alloc (.cells #[.slice none 0 0] 22)) := by kernel_rfl
theorem Try.siz86 (w : World) : (sizeOf 86).run Try.prog w = .ok 1 w := by kernel_rfl
theorem Try.agg86 (w : World) : (isAgg 86).run Try.prog w = .ok false w := by kernel_rfl
/-- the memory of the search within a range -/
def RI (w : World) (ta : Option Addr) (tn tc : Nat) (ca : Option Addr) (cn cc : Nat) (bu : Int) (b3 b5 b6 b9 bm : Nat) (f : Fl) (ks : List Nat) (k : Nat) (vR : Value) (s : List Int) (O : List (List Int)) (pre : List (List Int)) (W : World) : Prop :=
  ∃ v, RS w ta tn tc ca cn cc bu b3 b5 b6 b9 bm (NK b3 b5 b6 b9 bm ks k) W v v (foldO f bu s O pre) (foldO f bu s O pre) ∧ (∀ b, v.ownBlock = some b → vR.ownBlock = some b ∨ k + 4 < b) ∧ Mk b9 k ks W
section
variable {w : World} {ta ca : Option Addr} {tn tc cn cc : Nat} {bu : Int} {b3 b5 b6 b9 bm : Nat} {f : Fl} {ks : List Nat} {k : Nat} {vR : Value} {s : List Int} {O pre : List (List Int)} {W W' : World}
theorem RI.keep (h : RI w ta tn tc ca cn cc bu b3 b5 b6 b9 bm f ks k vR s O pre W) (hk : b9 < k) (g : Only (fun b => b = k + 1 ∨ b = k + 4) W W') : RI w ta tn tc ca cn cc bu b3 b5 b6 b9 bm f ks k vR s O pre W' := by
  obtain ⟨v, h1, h2, h3⟩ := h
  have hnu := h1.nu
  exact ⟨v, h1.only g (fun b e => ⟨.inr e, by omega, fun e2 => by unfold N0 at e2; omega⟩), h2, h3.only g (fun b e hb => by have := h3.b b hb; omega)⟩
theorem RI.start (h : RS w ta tn tc ca cn cc bu b3 b5 b6 b9 bm (NM b3 b5 b6 b9 bm ks) W vR vR O O) (hm : Mk b9 W.heap.size ks W) : RI w ta tn tc ca cn cc bu b3 b5 b6 b9 bm f ks W.heap.size vR s O [] W :=
  ⟨vR, h.to (fun b e => .inl (.inl e)) (fun b hb e => by
    rcases e with (e | e) | e
    · exact .inl e
    · rcases List.mem_cons.1 e with e | e
      · omega
      · exact .inr e
    · omega), fun b e => .inl e, hm⟩
theorem RI.done (h : RI w ta tn tc ca cn cc bu b3 b5 b6 b9 bm f ks k vR s O pre W) (hk : W.heap[k]? = some (.deferred (some []))) (h9 : b9 < k) : ∃ v, RS w ta tn tc ca cn cc bu b3 b5 b6 b9 bm (NM b3 b5 b6 b9 bm (k :: ks)) W v v (foldO f bu s O pre) (foldO f bu s O pre) ∧ Mk b9 W.heap.size (k :: ks) W := by
  obtain ⟨v, h1, h2, h3⟩ := h
  have hkl := (Array.getElem?_eq_some_iff.1 hk).1
  exact ⟨v, h1.to (fun b e => .inl e) (fun b hb e => .inl e), h3.cons hk h9 hkl (by omega)⟩
theorem RS.sbase {toa sa : Option Addr} {sd : Addr} {v : Value} {Os : List (List Int)} {n B : Nat} (h : RS w ta tn tc ca cn cc bu b3 b5 b6 b9 bm (NM b3 b5 b6 b9 bm ks) W v v O Os) (hok : FlOk f) (hf : FlAt w ta tn ca cn f) (hl : f.times.length = n) (hs : StOk f s)
    (hsa : sa = some sd) (his : Ints W (some sd) n s) (h3 : Is3 W sd.block) (hn : ¬ NM b3 b5 b6 b9 bm ks sd.block) (hto : Ints W toa n (newestV f)) (hnew : Y.New B toa) (hB9 : b9 < B) (hBo : ∀ b, v.ownBlock = some b → b < B) :
    SBase W (fun b => b = b6 ∨ b = bm ∨ v.ownBlock = some b ∨ W.heap.size ≤ b) f ta tn ca cn sa toa n s (newestV f) := by
  subst hsa
  have hn1 := hok.n1
  have hnu := h.nu
  have h3l := h3.lt
  have hto2 : ∀ ad, toa = some ad → ¬ (ad.block = b6 ∨ ad.block = bm ∨ v.ownBlock = some ad.block ∨ W.heap.size ≤ ad.block) := fun ad e hx => by
    obtain ⟨ad', e', hb, _⟩ := hto.at (j := 0) (by omega)
    rw [e] at e'
    injection e' with e'
    subst e'
    have h4 := hnew ad e
    rcases hx with hx | hx | hx | hx
    · omega
    · omega
    · have := hBo _ hx; omega
    · omega
  refine ⟨hok, hf.gr h.g0, his, hto, fun W' g => ⟨hf.gr (((h.g0.only (fun b => w.heap.size ≤ b)).trans (g.mono' (fun i e => ?_))).gr (fun i hi e => by omega)), his.onlyAt g (fun ad e hx => ?_), hto.onlyAt g hto2⟩, fun b hb => .inr (.inr (.inr hb)), by omega, hl.symm, fun c hc => ?_, fun c hc => ?_⟩
  · rcases e with e | e | e | e
    · omega
    · omega
    · exact (h.out.own e).1
    · have := h.g0.size; omega
  · cases e
    rcases hx with hx | hx | hx | hx
    · exact hn (.inl (.inr (.inr (.inl hx))))
    · exact hn (.inl (.inr (.inr (.inr (.inr hx)))))
    · exact (h.out.own hx).2.2.2 h3
    · omega
  · exact (hs.ver c (by omega)).1
  · simp [newestV, show c < f.times.length by omega]
end
theorem newest_st {f : Fl} : StOk f (newestV f) := ⟨by simp [newestV], fun c hc => by simp [newestV, hc]⟩
theorem enum_okN {f : Fl} {s : List Int} {n : Nat} (hs : StOk f s) (hl : f.times.length = n) : ∀ t ∈ enum f s (newestV f) n [], StOk f t ∧ worksB f t = true := fun t ht => by
  rw [← hl, ← hs.len] at ht
  obtain ⟨h1, h2⟩ := enum_between ht
  exact ⟨hs.btw newest_st h1, h2⟩
theorem setCell_same {W : World} {b : Nat} {v : Value} (h : W.cell? ⟨b, 0, none⟩ = some v) : W.setCell ⟨b, 0, none⟩ v = W := by
  rw [Go.Sort.setCell_eq]
  refine Go.Sort.mapBlock_id W b _ (fun c e fr hb => ?_)
  have hc : c[0]? = some v := by
    unfold World.cell? at h
    simpa [hb] using h
  apply Array.ext_getElem?
  intro i
  by_cases e : i = 0
  · subst e
    rw [hc, Array.getElem?_setIfInBounds_self_of_lt ((Array.getElem?_eq_some_iff.1 hc).1)]
  · rw [Array.getElem?_setIfInBounds_ne (Ne.symm e)]
theorem Seen.gr {W W' : World} {m : Nat} {O : List (List Int)} (h : Seen W m O) (g : Gr W W') : Seen W' m O := h.only (g.only (fun _ => False)) (fun e => e)
theorem Try.bx3 (x : Int) (w : World) : (Instr.box 3 (.int .i64 x)).run Try.prog w = .ok (.pointer (some ⟨w.heap.size, 0, none⟩)) (w.alloc (.cells #[.int .i64 x] 3)) := by kernel_rfl
theorem statesE_two {f : Fl} {xs : List Int} : statesE f [xs, xs] = statesE f [xs] := by
  unfold statesE
  have : stsB f.times [xs, xs] = stsB f.times [xs] := by
    unfold stsB
    simp [List.range, List.range.loop]
  rw [this]
theorem beginE_two {f : Fl} {bu : Int} {xs : List Int} : beginE f bu [xs, xs] = beginE f bu [xs] := by unfold beginE; rw [statesE_two]
end
section
open Go.RowKit

theorem beginE_bu {f : Fl} {bu : Int} {L : List (List Int)} (h : beginE f bu L = 0) : 0 ≤ bu ∧ bu ≤ 1000000 := by
  unfold beginE at h
  by_cases hz : statesE f L = 0
  · rw [if_pos hz] at h
    cases hw : withinB bu 0 1000000 with
    | false => rw [hw] at h; simp at h
    | true => simpa [withinB] using hw
  · rw [if_neg hz] at h; exact absurd h hz
theorem planned_bu {f : Fl} {xs ys : List Int} {a b : Int} (ha : 0 ≤ a ∧ a ≤ 1000000) (hb : 0 ≤ b ∧ b ≤ 1000000) : plannedE f xs ys a = plannedE f xs ys b := by
  unfold plannedE beginE
  rw [withinB_bu ha.1 ha.2, withinB_bu hb.1 hb.2]
theorem addr_add1 (g j : Nat) : (⟨g, 0, none⟩ : Addr).add (j * 1) = ⟨g, j, none⟩ := by rw [Nat.mul_one]; exact addr_add0 g j
/-- what Reach returns -/
def reachE (f : Fl) (xs : List Int) (bu : Int) : Int := plannedE f xs xs bu
def reachR (f : Fl) (xs : List Int) (bu : Int) : List (List Int) := if plannedE f xs xs bu = 0 then reachV f xs bu else []
end
section
open Go.RowKit

theorem Try.mk26 (n : Nat) (w : World) (hn : n ≤ 6) : (Instr.makeSlice 26 (.int .i64 (n : Int)) (.int .i64 (n : Int))).run Try.prog w = .ok (.slice (some ⟨w.heap.size, 0, none⟩) n n) (w.alloc (.cells (List.replicate n (.int .i64 0)).toArray 3)) := by
  obtain rfl | rfl | rfl | rfl | rfl | rfl | rfl : n = 0 ∨ n = 1 ∨ n = 2 ∨ n = 3 ∨ n = 4 ∨ n = 5 ∨ n = 6 := by omega
  all_goals kernel_rfl
theorem zeros_new {f : Fl} {n : Nat} (w : World) (hl : f.times.length = n) (h6 : n ≤ 6) : Ints (w.alloc (.cells (List.replicate n (.int .i64 0)).toArray 3)) (some ⟨w.heap.size, 0, none⟩) n (zeros f) := by
  subst hl
  refine ⟨by simp [zeros], by omega, fun j hj => ⟨⟨w.heap.size, 0, none⟩, rfl, by simp, ?_⟩⟩
  rw [addr_add0]
  exact cell_new (by simp [zeros, hj])
theorem newest_take {f : Fl} {n k : Nat} (hl : f.times.length = n) (hk : k < n) : (newestV f).take (k + 1) = (newestV f).take k ++ [(((f.times[k]?.getD []).length : Nat) : Int)] := by
  have h : k < (newestV f).length := by simp [newestV]; omega
  rw [List.take_succ_eq_append_getElem h]
  congr 2
  simp [newestV, show k < f.times.length by omega]
theorem newest_out {f : Fl} {n B : Nat} {w : World} {v : Value} {B' : Nat} (hB : B' ≤ B) (hO : OwnI w B v ((newestV f).take n)) (hl : f.times.length = n) (h6 : n ≤ 6) : (Y.MP.intsF B' n (newestV f)).p v w := by
  have e : (newestV f).take n = newestV f := by rw [List.take_of_length_le]; simp [newestV, hl]
  rw [e] at hO
  have hn : (newestV f).length = n := by simp [newestV, hl]
  have hN : ∀ ad k c, v = .slice (some ad) k c → B ≤ ad.block := fun ad k c e => by
    rcases hO.2 with ⟨e2, _⟩ | ⟨g, cap, cur, e2, h2, _⟩
    · rw [e2] at e; cases e
    · rw [e2] at e; injection e with e; injection e with e; subst e; exact h2
  obtain ⟨a, c, rfl, h, _⟩ := hO.ints (by omega)
  rw [hn] at h hN
  exact ⟨a, c, by rw [hn], h, fun ad e => by subst e; exact Nat.le_trans hB (hN ad _ _ rfl)⟩

set_option maxRecDepth 100000 in
set_option maxHeartbeats 400000 in
theorem oldest_any (B : Nat) (ta ca : Option Addr) (tn tc cn cc : Nat) (f : Fl) (w : World) (hok : FlOk f) (hf : FlAt w ta tn ca cn f) (hB : B ≤ w.heap.size) :
    Calls Try.prog 79 #[.agg #[.slice ta tn tc, .slice ca cn cc]] w fun e w' => ∃ v, e = .returned v ∧ (Y.MP.intsF B tn (zeros f)).p v w' ∧ Gr w w' := by
  have hl : f.times.length = tn := hf.t.len
  have h6 : tn ≤ 6 := by have := hok.n6; omega
  have G := Gr.refl w
  refine Y.calls 7 Try.func79 rfl rfl ?_
  intro ac F0
  have F : Fr ac 7 [(0, .agg #[.slice ta tn tc, .slice ca cn cc])] := F0.sub _ (by kernel_rfl)
  clear F0
  refine Y.seq ?_
  refine Y.lit (by kernel_rfl) ?_
  refine Y.pval F (X.w0 rfl) rfl (X.box rfl (F.ev 0 (.agg #[.slice ta tn tc, .slice ca cn cc]) (by kernel_rfl)) X.bx) ?_
  clear F ac
  intro ac F
  have g := Gr.alloc w (.cells #[.slice ta tn tc, .slice ca cn cc] 25)
  have hb := heap_alloc_new w (.cells #[.slice ta tn tc, .slice ca cn cc] 25)
  have hbl : w.heap.size < (w.alloc (.cells #[.slice ta tn tc, .slice ca cn cc] 25)).heap.size := by simp
  have hC2 : RCells (w.alloc (.cells #[.slice ta tn tc, .slice ca cn cc] 25)) [(⟨w.heap.size, 0, none⟩, .slice ta tn tc), (⟨w.heap.size, 1, none⟩, .slice ca cn cc)] := (RCells.nil w).box (b := w.heap.size) #[.slice ta tn tc, .slice ca cn cc] 25 rfl
  generalize w.alloc (.cells #[.slice ta tn tc, .slice ca cn cc] 25) = w3 at *
  replace G := G.trans g
  have hC := hC2
  clear hC2
  replace hf := hf.gr g
  clear g hb hbl
  refine Y.pval F (X.w0 rfl) rfl (X.assign rfl (X.kc (.slice none 0 0) rfl)) ?_
  clear F ac
  intro ac F
  refine Y.nil ?_
  replace F : Fr ac 7 [(0, .agg #[.slice ta tn tc, .slice ca cn cc]), (1, .pointer (some ⟨w.heap.size, 0, none⟩)), (2, .slice none 0 0)] := F.sub _ (by kernel_rfl)
  refine X.thenN ?_
  refine Y.seq ?_
  refine Y.lit (by kernel_rfl) ?_
  refine Y.pval F (X.w0 rfl) rfl (X.field rfl (F.ev 1 (.pointer (some ⟨w.heap.size, 0, none⟩)) (by kernel_rfl)) (X.fld Try.underlying25 rfl (Try.siz22 _) rfl rfl)) ?_
  clear F ac
  intro ac F
  refine Y.pval F (X.w0 rfl) rfl (X.load rfl (F.ev 3 (.pointer (some ⟨w.heap.size, 0, none⟩)) (by kernel_rfl)) (X.ld1 (Try.agg22 _) (hC.at 0 rfl))) ?_
  clear F ac
  intro ac F
  refine Y.pval F (X.w0 rfl) rfl (X.len1 Try.underlying22 rfl (F.ev 4 (.slice ta tn tc) (by kernel_rfl))) ?_
  clear F ac
  intro ac F
  refine Y.pval F (X.w0 rfl) rfl (Y.mk rfl (F.ev 5 (.int .i64 tn) (by kernel_rfl)) (F.ev 5 (.int .i64 tn) (by kernel_rfl)) (Try.mk26 tn _ (by omega))) ?_
  clear F ac
  intro ac F
  have g := Gr.alloc w3 (.cells (List.replicate tn (.int .i64 0)).toArray 3)
  have hI : Ints (w3.alloc (.cells (List.replicate tn (.int .i64 0)).toArray 3)) (some ⟨w3.heap.size, 0, none⟩) tn (zeros f) := zeros_new w3 hl h6
  have hN : Y.New B (some ⟨w3.heap.size, 0, none⟩) := fun ad e => by injection e with e; subst e; have := G.size; simp only; omega
  generalize w3.alloc (.cells (List.replicate tn (.int .i64 0)).toArray 3) = w4 at *
  replace G := G.trans g
  replace hC := hC.gr g
  replace hf := hf.gr g
  clear g
  refine Y.pval F (X.w0 rfl) rfl (X.assign rfl (F.ev 6 (.slice (some ⟨w3.heap.size, 0, none⟩) tn tn) (by kernel_rfl))) ?_
  clear F ac
  intro ac F
  refine Y.nil ?_
  replace F : Fr ac 7 [(0, .agg #[.slice ta tn tc, .slice ca cn cc]), (1, .pointer (some ⟨w.heap.size, 0, none⟩)), (2, .slice (some ⟨w3.heap.size, 0, none⟩) tn tn)] := F.sub _ (by kernel_rfl)
  refine X.thenN ?_
  refine Y.ret ?_
  exact Y.ret0 (v := .slice (some ⟨w3.heap.size, 0, none⟩) tn tn) F (Y.rs1 F rfl (by kernel_rfl)) ⟨_, rfl, ⟨_, _, rfl, hI, hN⟩, G⟩

set_option maxRecDepth 100000 in
set_option maxHeartbeats 400000 in
theorem newest_any (B : Nat) (ta ca : Option Addr) (tn tc cn cc : Nat) (f : Fl) (w : World) (hok : FlOk f) (hf : FlAt w ta tn ca cn f) (hB : B ≤ w.heap.size) :
    Calls Try.prog 80 #[.agg #[.slice ta tn tc, .slice ca cn cc]] w fun e w' => ∃ v, e = .returned v ∧ (Y.MP.intsF B tn (newestV f)).p v w' ∧ Gr w w' := by
  have hl : f.times.length = tn := hf.t.len
  have h6 : tn ≤ 6 := by have := hok.n6; omega
  have ht := hf.t
  have G := Gr.refl w
  refine Y.calls 19 Try.func80 rfl rfl ?_
  intro ac F0
  have F : Fr ac 19 [(0, .agg #[.slice ta tn tc, .slice ca cn cc])] := F0.sub _ (by kernel_rfl)
  clear F0
  refine Y.seq ?_
  refine Y.lit (by kernel_rfl) ?_
  refine Y.pval F (X.w0 rfl) rfl (X.box rfl (F.ev 0 (.agg #[.slice ta tn tc, .slice ca cn cc]) (by kernel_rfl)) X.bx) ?_
  clear F ac
  intro ac F
  have g := Gr.alloc w (.cells #[.slice ta tn tc, .slice ca cn cc] 25)
  have hb := heap_alloc_new w (.cells #[.slice ta tn tc, .slice ca cn cc] 25)
  have hbl : w.heap.size < (w.alloc (.cells #[.slice ta tn tc, .slice ca cn cc] 25)).heap.size := by simp
  have hC2 : RCells (w.alloc (.cells #[.slice ta tn tc, .slice ca cn cc] 25)) [(⟨w.heap.size, 0, none⟩, .slice ta tn tc), (⟨w.heap.size, 1, none⟩, .slice ca cn cc)] := (RCells.nil w).box (b := w.heap.size) #[.slice ta tn tc, .slice ca cn cc] 25 rfl
  generalize w.alloc (.cells #[.slice ta tn tc, .slice ca cn cc] 25) = w3 at *
  replace G := G.trans g
  have hC := hC2
  clear hC2
  replace hf := hf.gr g
  replace ht := ht.gr g
  clear g hb hbl
  refine Y.pval F (X.w0 rfl) rfl (X.assign rfl (X.kc (.slice none 0 0) rfl)) ?_
  clear F ac
  intro ac F
  refine Y.nil ?_
  replace F : Fr ac 19 [(0, .agg #[.slice ta tn tc, .slice ca cn cc]), (1, .pointer (some ⟨w.heap.size, 0, none⟩)), (2, .slice none 0 0)] := F.sub _ (by kernel_rfl)
  refine X.thenN ?_
  refine Y.seq ?_
  refine Y.seq ?_
  refine Y.lit (by kernel_rfl) ?_
  refine Y.pval F (X.w0 rfl) rfl (X.field rfl (F.ev 1 (.pointer (some ⟨w.heap.size, 0, none⟩)) (by kernel_rfl)) (X.fld Try.underlying25 rfl (Try.siz22 _) rfl rfl)) ?_
  clear F ac
  intro ac F
  refine Y.pval F (X.w0 rfl) rfl (X.load rfl (F.ev 5 (.pointer (some ⟨w.heap.size, 0, none⟩)) (by kernel_rfl)) (X.ld1 (Try.agg22 _) (hC.at 0 rfl))) ?_
  clear F ac
  intro ac F
  refine Y.pval F (X.w0 rfl) rfl (X.len1 Try.underlying22 rfl (F.ev 6 (.slice ta tn tc) (by kernel_rfl))) ?_
  clear F ac
  intro ac F
  refine Y.pval F (X.w0 rfl) rfl (X.move rfl (X.kc (.int .i64 0) rfl)) ?_
  clear F ac
  intro ac F
  refine Y.nil ?_
  replace F : Fr ac 19 [(0, .agg #[.slice ta tn tc, .slice ca cn cc]), (1, .pointer (some ⟨w.heap.size, 0, none⟩)), (2, .slice none 0 0), (6, .slice ta tn tc), (7, .int .i64 tn), (8, .int .i64 0)] := F.sub _ (by kernel_rfl)
  refine X.thenN ?_
  refine Y.block ?_
  have hfB := hf
  have htB := ht
  have hCB := hC
  have GB := G
  refine Y.loop (fun me_ ac wr => ∃ (k : Nat) (vv : Value), me_ = tn - k ∧ Gr w3 wr ∧ k ≤ tn ∧ OwnI wr w3.heap.size vv ((newestV f).take k) ∧ Fr ac 19 [(0, .agg #[.slice ta tn tc, .slice ca cn cc]), (1, .pointer (some ⟨w.heap.size, 0, none⟩)), (2, vv), (6, .slice ta tn tc), (7, .int .i64 tn), (8, .int .i64 k)]) _ ⟨0, _, rfl, Gr.refl _, Nat.zero_le _, OwnI.nil _ _, F.sub _ (by kernel_rfl)⟩ ?_
  clear F
  intro me_ ac w4 hI
  obtain ⟨k, vv, rfl, gr, hk, hO, F⟩ := hI
  replace G := GB.trans gr
  replace hC := hCB.gr gr
  replace hf := hfB.gr gr
  replace ht := htB.gr gr
  have GB_ := gr
  clear gr
  refine Y.seq ?_
  refine Y.lit (by kernel_rfl) ?_
  refine Y.pval F (X.w0 rfl) rfl (X.binop rfl (F.ev 8 (.int .i64 k) (by kernel_rfl)) (F.ev 7 (.int .i64 tn) (by kernel_rfl)) (X.lssI Try.underlying3 rfl)) ?_
  clear F ac
  intro ac F
  refine Y.nil ?_
  replace F : Fr ac 19 [(0, .agg #[.slice ta tn tc, .slice ca cn cc]), (1, .pointer (some ⟨w.heap.size, 0, none⟩)), (2, vv), (6, .slice ta tn tc), (7, .int .i64 tn), (8, .int .i64 k), (9, .bool (decide ((k : Int) < tn)))] := F.sub _ (by kernel_rfl)
  refine X.thenN ?_
  refine Y.seq ?_
  cases h5 : decide ((k : Int) < tn) with
  | false =>
    try rw [h5] at F
    have h5p : ¬ ((k : Int) < tn) := of_decide_eq_false h5
    obtain rfl : tn = k := by omega
    refine Y.condF (F.ev 9 (.bool false) (by kernel_rfl)) ?_
    refine Y.exit ?_
    refine X.thenX ?_
    refine X.thenX ?_
    refine X.blockX ?_
    refine X.thenN ?_
    refine Y.seq ?_
    refine Y.lit (by kernel_rfl) ?_
    refine Y.pval F (X.w0 rfl) rfl (X.move rfl (F.ev 2 (vv) (by kernel_rfl))) ?_
    clear F ac
    intro ac F
    refine Y.pval F (X.w0 rfl) rfl (X.assign rfl (F.ev 18 (vv) (by kernel_rfl))) ?_
    clear F ac
    intro ac F
    refine Y.nil ?_
    replace F : Fr ac 19 [(0, .agg #[.slice ta tn tc, .slice ca cn cc]), (1, .pointer (some ⟨w.heap.size, 0, none⟩)), (2, vv), (6, .slice ta tn tc), (7, .int .i64 tn), (8, .int .i64 tn), (9, .bool false)] := F.sub _ (by kernel_rfl)
    refine X.thenN ?_
    refine Y.ret ?_
    exact Y.ret0 (v := vv) F (Y.rs1 F rfl (by kernel_rfl)) ⟨_, rfl, newest_out (by have := GB.size; omega) hO hl (by omega), G⟩
  | true =>
    try rw [h5] at F
    have h5p : ((k : Int) < tn) := of_decide_eq_true h5
    have hk1 : k < tn := by omega
    refine Y.condT (F.ev 9 (.bool true) (by kernel_rfl)) ?_
    refine Y.skip ?_
    refine X.thenN ?_
    refine Y.seq ?_
    refine Y.block ?_
    refine Y.seq ?_
    refine Y.lit (by kernel_rfl) ?_
    obtain ⟨pd6, pa6, rn6, pq6, pe6, -, pc6, pi6⟩ := ht.at (j := k) (by omega)
    subst pe6
    replace hC : RCells w4 [(⟨w.heap.size, 0, none⟩, .slice (some pd6) tn tc), (⟨w.heap.size, 1, none⟩, .slice ca cn cc), (pd6.add k, .slice pa6 rn6 pq6)] := hC.append ((RCells.cons pc6 (RCells.nil _)))
    clear pc6
    refine Y.pval F (X.w0 rfl) rfl (X.index rfl (F.ev 6 (.slice (some pd6) tn tc) (by kernel_rfl)) (F.ev 8 (.int .i64 k) (by kernel_rfl)) (X.idx Try.underlying22 (Try.siz26 _) (by omega) (by omega) (by rw [Nat.mul_one]))) ?_
    clear F ac
    intro ac F
    refine Y.pval F (X.w0 rfl) rfl (X.load rfl (F.ev 10 (.pointer (some (pd6.add k))) (by kernel_rfl)) (X.ld1 (Try.agg26 _) (hC.at 2 rfl))) ?_
    clear F ac
    intro ac F
    refine Y.pval F (X.w0 rfl) rfl (X.assign rfl (F.ev 11 (.slice pa6 rn6 pq6) (by kernel_rfl))) ?_
    clear F ac
    intro ac F
    refine Y.nil ?_
    replace F : Fr ac 19 [(0, .agg #[.slice (some pd6) tn tc, .slice ca cn cc]), (1, .pointer (some ⟨w.heap.size, 0, none⟩)), (2, vv), (4, .slice pa6 rn6 pq6), (6, .slice (some pd6) tn tc), (7, .int .i64 tn), (8, .int .i64 k), (9, .bool true)] := F.sub _ (by kernel_rfl)
    refine X.thenN ?_
    refine Y.lit (by kernel_rfl) ?_
    refine Y.pval F (X.w0 rfl) rfl (X.move rfl (F.ev 2 (vv) (by kernel_rfl))) ?_
    clear F ac
    intro ac F
    refine Y.pval F (X.w0 rfl) rfl (X.move rfl (F.ev 4 (.slice pa6 rn6 pq6) (by kernel_rfl))) ?_
    clear F ac
    intro ac F
    refine Y.pval F (X.w0 rfl) rfl (X.len1 Try.underlying26 rfl (F.ev 13 (.slice pa6 rn6 pq6) (by kernel_rfl))) ?_
    clear F ac
    intro ac F
    refine Y.pval F (X.w0 rfl) rfl (X.bs rfl (X.b1 (F.ev 14 (.int .i64 rn6) (by kernel_rfl))) (Try.bs26a _ _)) ?_
    clear F ac
    intro ac F
    have g := Gr.alloc w4 (.cells #[.int .i64 rn6] 3)
    have hb := heap_alloc_new w4 (.cells #[.int .i64 rn6] 3)
    have hbl : w4.heap.size < (w4.alloc (.cells #[.int .i64 rn6] 3)).heap.size := by simp
    generalize w4.alloc (.cells #[.int .i64 rn6] 3) = w7 at *
    replace G := G.trans g
    replace hC := hC.gr g
    replace GB_ := GB_.trans g
    replace hf := hf.gr g
    replace ht := ht.gr g
    replace hO := hO.gr g
    replace pi6 := pi6.gr g
    have hbk := hb
    clear g hb hbl
    refine Y.ppushI rfl rfl (F.ev 12 (vv) (by kernel_rfl)) (F.ev 15 (.slice (some ⟨w4.heap.size, 0, none⟩) 1 1) (by kernel_rfl)) hbk hO GB_ (by rw [List.length_take]; omega) ?_
    intro v' w8 hO' GB'
    refine Y.pput F rfl ?_
    clear F ac
    intro ac F
    refine Y.pval F (X.w0 rfl) rfl (X.assign rfl (F.ev 16 (v') (by kernel_rfl))) ?_
    clear F ac
    intro ac F
    refine Y.nil ?_
    replace F : Fr ac 19 [(0, .agg #[.slice (some pd6) tn tc, .slice ca cn cc]), (1, .pointer (some ⟨w.heap.size, 0, none⟩)), (2, v'), (4, .slice pa6 rn6 pq6), (6, .slice (some pd6) tn tc), (7, .int .i64 tn), (8, .int .i64 k), (9, .bool true)] := F.sub _ (by kernel_rfl)
    refine X.blockN ?_
    refine X.thenN ?_
    refine Y.lit (by kernel_rfl) ?_
    refine Y.pval F (X.w0 rfl) rfl (X.binop rfl (F.ev 8 (.int .i64 k) (by kernel_rfl)) (X.kc (.int .i64 1) rfl) (X.addI Try.underlying3 rfl (by omega) (by omega))) ?_
    clear F ac
    intro ac F
    refine Y.pval F (X.w0 rfl) rfl (X.move rfl (F.ev 17 (.int .i64 ((k : Int) + 1)) (by kernel_rfl))) ?_
    clear F ac
    intro ac F
    refine Y.nil ?_
    replace F : Fr ac 19 [(0, .agg #[.slice (some pd6) tn tc, .slice ca cn cc]), (1, .pointer (some ⟨w.heap.size, 0, none⟩)), (2, v'), (4, .slice pa6 rn6 pq6), (6, .slice (some pd6) tn tc), (7, .int .i64 tn), (8, .int .i64 ((k : Int) + 1)), (9, .bool true)] := F.sub _ (by kernel_rfl)
    refine X.thenN ?_
    refine ⟨_, ?_, k + 1, v', rfl, GB', by omega, by rw [newest_take hl hk1, pi6.len]; exact hO', F.sub _ (by kernel_rfl)⟩
    omega
end
section
open Go.RowKit

theorem allV_enum0 {f : Fl} {n : Nat} (hl : f.times.length = n) : allV f = enum f (zeros f) (newestV f) n [] := by rw [allV_enum, hl]
theorem Try.new3 (w : World) : (Instr.alloc 3 true (.tuple #[])).run Try.prog w = .ok (.pointer (some ⟨w.heap.size, 0, none⟩)) (w.alloc (.cells #[.int .i64 0] 3)) := by kernel_rfl
theorem Try.new26 (w : World) : (Instr.alloc 26 true (.tuple #[])).run Try.prog w = .ok (.pointer (some ⟨w.heap.size, 0, none⟩)) (w.alloc (.cells #[.slice none 0 0] 26)) := by kernel_rfl

set_option maxRecDepth 100000 in
set_option maxHeartbeats 400000 in
theorem count_any (ta ca : Option Addr) (tn tc cn cc : Nat) (f : Fl) (w : World) (hf : FlAt w ta tn ca cn f) :
    Calls Try.prog 40 #[.agg #[.slice ta tn tc, .slice ca cn cc]] w fun e w' => e = .returned (.tuple #[.int .i64 (cntV f), .int .i64 (chkE f)]) ∧ Gr w w' := by
  have hf0 := hf
  have hl : f.times.length = tn := hf.t.len
  have G := Gr.refl w
  refine Y.calls 20 Try.func40 rfl rfl ?_
  intro ac F0
  have F : Fr ac 20 [(0, .agg #[.slice ta tn tc, .slice ca cn cc])] := F0.sub _ (by kernel_rfl)
  clear F0
  refine Y.seq ?_
  refine Y.lit (by kernel_rfl) ?_
  refine Y.pval F (X.w0 rfl) rfl (X.box rfl (F.ev 0 (.agg #[.slice ta tn tc, .slice ca cn cc]) (by kernel_rfl)) X.bx) ?_
  clear F ac
  intro ac F
  have g := Gr.alloc w (.cells #[.slice ta tn tc, .slice ca cn cc] 25)
  have hb := heap_alloc_new w (.cells #[.slice ta tn tc, .slice ca cn cc] 25)
  have hbl : w.heap.size < (w.alloc (.cells #[.slice ta tn tc, .slice ca cn cc] 25)).heap.size := by simp
  have hC2 : RCells (w.alloc (.cells #[.slice ta tn tc, .slice ca cn cc] 25)) [(⟨w.heap.size, 0, none⟩, .slice ta tn tc), (⟨w.heap.size, 1, none⟩, .slice ca cn cc)] := (RCells.nil w).box (b := w.heap.size) #[.slice ta tn tc, .slice ca cn cc] 25 rfl
  generalize w.alloc (.cells #[.slice ta tn tc, .slice ca cn cc] 25) = w3 at *
  replace G := G.trans g
  have hC := hC2
  clear hC2
  replace hf := hf.gr g
  clear g hb hbl
  refine Y.pval F (X.w0 rfl) rfl (Y.al rfl (Try.new3 _)) ?_
  clear F ac
  intro ac F
  have hge := G.size
  have g := Gr.alloc w3 (.cells #[.int .i64 0] 3)
  have hb := heap_alloc_new w3 (.cells #[.int .i64 0] 3)
  have hbl : w3.heap.size < (w3.alloc (.cells #[.int .i64 0] 3)).heap.size := by simp
  have hC2 : RCells (w3.alloc (.cells #[.int .i64 0] 3)) [(⟨w.heap.size, 0, none⟩, .slice ta tn tc), (⟨w.heap.size, 1, none⟩, .slice ca cn cc), (⟨w3.heap.size, 0, none⟩, .int .i64 0)] := hC.box (b := w3.heap.size) #[.int .i64 0] 3 rfl
  generalize w3.alloc (.cells #[.int .i64 0] 3) = w4 at *
  replace G := G.trans g
  replace hC := hC2
  clear hC2
  replace hf := hf.gr g
  have hz := Y.Fz.new hb
  clear g hb hbl
  refine Y.pval F (X.w0 rfl) rfl (X.assign rfl (X.kc (.int .i64 0) rfl)) ?_
  clear F ac
  intro ac F
  refine Y.nil ?_
  replace F : Fr ac 20 [(0, .agg #[.slice ta tn tc, .slice ca cn cc]), (1, .pointer (some ⟨w.heap.size, 0, none⟩)), (2, .pointer (some ⟨w3.heap.size, 0, none⟩)), (3, .int .i64 0)] := F.sub _ (by kernel_rfl)
  refine X.thenN ?_
  refine Y.seq ?_
  refine Y.seq ?_
  refine Y.lit (by kernel_rfl) ?_
  refine Y.pval F (X.w0 rfl) rfl (X.load rfl (F.ev 1 (.pointer (some ⟨w.heap.size, 0, none⟩)) (by kernel_rfl)) (X.ldN (Try.agg25 _) (Try.siz25 _) (X.c2 (hC.at 0 rfl) (hC.at 1 rfl)))) ?_
  clear F ac
  intro ac F
  refine Y.pcall F (X.w0 rfl) rfl (X.enter (F := 36) rfl (X.kc (.func (.func 36) #[] #[]) rfl) (X.a1 (F.ev 5 (.agg #[.slice ta tn tc, .slice ca cn cc]) (by kernel_rfl))) (enters_of Try.func36 (by kernel_rfl) rfl _)) (check_any ta ca tn tc cn cc f w4 hf) ?_
  clear F ac
  rintro e w6 ⟨rfl, g⟩
  refine ⟨_, rfl, ?_⟩
  intro ac F
  replace G := G.trans g
  replace hC := hC.gr g
  replace hf := hf.gr g
  replace hz := hz.gr g
  clear g
  refine Y.pval F (X.w0 rfl) rfl (X.assign rfl (F.ev 6 (.int .i64 (chkE f)) (by kernel_rfl))) ?_
  clear F ac
  intro ac F
  refine Y.nil ?_
  replace F : Fr ac 20 [(0, .agg #[.slice ta tn tc, .slice ca cn cc]), (1, .pointer (some ⟨w.heap.size, 0, none⟩)), (2, .pointer (some ⟨w3.heap.size, 0, none⟩)), (3, .int .i64 0), (4, .int .i64 (chkE f))] := F.sub _ (by kernel_rfl)
  refine X.thenN ?_
  refine Y.seq ?_
  refine Y.lit (by kernel_rfl) ?_
  refine Y.pval F (X.w0 rfl) rfl (X.move rfl (F.ev 4 (.int .i64 (chkE f)) (by kernel_rfl))) ?_
  clear F ac
  intro ac F
  refine Y.pval F (X.w0 rfl) rfl (X.binop rfl (F.ev 7 (.int .i64 (chkE f)) (by kernel_rfl)) (X.kc (.int .i64 0) rfl) (X.neqI Try.underlying31 rfl)) ?_
  clear F ac
  intro ac F
  refine Y.nil ?_
  replace F : Fr ac 20 [(0, .agg #[.slice ta tn tc, .slice ca cn cc]), (1, .pointer (some ⟨w.heap.size, 0, none⟩)), (2, .pointer (some ⟨w3.heap.size, 0, none⟩)), (3, .int .i64 0), (4, .int .i64 (chkE f)), (8, .bool ((chkE f : Int) != 0))] := F.sub _ (by kernel_rfl)
  refine X.thenN ?_
  cases h7 : ((chkE f : Int) != 0) with
  | false =>
    try rw [h7] at F
    have h7p : (chkE f : Int) = 0 := by simpa using h7
    have hok : FlOk f := chkB_ok (chkE_zero h7p)
    have HE : chkE f = 0 := h7p
    refine Y.condF (F.ev 8 (.bool false) (by kernel_rfl)) ?_
    refine Y.skip ?_
    refine X.thenN ?_
    refine Y.seq ?_
    refine Y.seq ?_
    have hbB := hz.1
    refine Y.region F [some (.agg #[.slice ta tn tc, .slice ca cn cc]), some (.agg #[.slice ta tn tc, .slice ca cn cc]), none, some (.agg #[.slice ta tn tc, .slice ca cn cc]), none, none] [(2, Y.MP.intsF w6.heap.size tn (zeros f)), (4, Y.MP.intsF w6.heap.size tn (newestV f)), (5, Y.MP.iter w6.heap.size ta tn tc ca cn cc tn (zeros f) (newestV f) (Y.New w6.heap.size) (Y.New w6.heap.size))] rfl ⟨by kernel_rfl, of_decide_eq_true (by kernel_rfl), by kernel_rfl, by kernel_rfl, by kernel_rfl⟩ ⟨?_, ?_, ?_, ?_, ?_, ?_, trivial⟩ ?_
    · intro ac done u W Sx hR
      have g : Gr w6 W := hR.1
      exact X.val (X.w0 rfl) rfl (X.load rfl (Sx.ev 1 (.pointer (some ⟨w.heap.size, 0, none⟩)) (by kernel_rfl)) (X.ldN (Try.agg25 _) (Try.siz25 _) (X.c2 ((hC.gr g).at 0 rfl) ((hC.gr g).at 1 rfl)))) (hR.step (Gr.refl _) rfl)
    · intro ac done u W Sx hR
      have g : Gr w6 W := hR.1
      exact X.val (X.w0 rfl) rfl (X.load rfl (Sx.ev 1 (.pointer (some ⟨w.heap.size, 0, none⟩)) (by kernel_rfl)) (X.ldN (Try.agg25 _) (Try.siz25 _) (X.c2 ((hC.gr g).at 0 rfl) ((hC.gr g).at 1 rfl)))) (hR.step (Gr.refl _) rfl)
    · intro ac done u W Sx hR
      have g : Gr w6 W := hR.1
      refine X.call (X.w0 rfl) (X.enter (F := 79) rfl (X.kc (.func (.func 79) #[] #[]) rfl) (X.a1 (Sx.ev 11 (.agg #[.slice ta tn tc, .slice ca cn cc]) (by kernel_rfl))) (enters_of Try.func79 (by kernel_rfl) rfl _)) (oldest_any w6.heap.size ta ca tn tc cn cc f W hok (hf.gr g) g.size) ?_
      rintro e W2 ⟨v, rfl, hp, g2⟩
      exact ⟨_, rfl, X.un rfl, hR.new (q := Y.MP.intsF w6.heap.size tn (zeros f)) g2 rfl hp⟩
    · intro ac done u W Sx hR
      have g : Gr w6 W := hR.1
      exact X.val (X.w0 rfl) rfl (X.load rfl (Sx.ev 1 (.pointer (some ⟨w.heap.size, 0, none⟩)) (by kernel_rfl)) (X.ldN (Try.agg25 _) (Try.siz25 _) (X.c2 ((hC.gr g).at 0 rfl) ((hC.gr g).at 1 rfl)))) (hR.step (Gr.refl _) rfl)
    · intro ac done u W Sx hR
      have g : Gr w6 W := hR.1
      refine X.call (X.w0 rfl) (X.enter (F := 80) rfl (X.kc (.func (.func 80) #[] #[]) rfl) (X.a1 (Sx.ev 13 (.agg #[.slice ta tn tc, .slice ca cn cc]) (by kernel_rfl))) (enters_of Try.func80 (by kernel_rfl) rfl _)) (newest_any w6.heap.size ta ca tn tc cn cc f W hok (hf.gr g) g.size) ?_
      rintro e W2 ⟨v, rfl, hp, g2⟩
      exact ⟨_, rfl, X.un rfl, hR.new (q := Y.MP.intsF w6.heap.size tn (newestV f)) g2 rfl hp⟩
    · intro ac done u W Sx hR
      have g : Gr w6 W := hR.1
      obtain ⟨ra8, rc8, e2, hI8, hN8⟩ := hR.get (i := 2) (Y.MP.intsF w6.heap.size tn (zeros f)) rfl (Sx.an 2 (by kernel_rfl))
      obtain ⟨ra9, rc9, e4, hI9, hN9⟩ := hR.get (i := 4) (Y.MP.intsF w6.heap.size tn (newestV f)) rfl (Sx.an 4 (by kernel_rfl))
      refine X.call (X.w0 rfl) (X.enter (F := 59) rfl (X.kc (.func (.func 59) #[] #[]) rfl) (X.a3 (Sx.ev 10 (.agg #[.slice ta tn tc, .slice ca cn cc]) (by kernel_rfl)) ((Sx.own 2 12 rfl).trans e2) ((Sx.own 4 14 rfl).trans e4)) (enters_of Try.func59 (by kernel_rfl) rfl _)) (Y.states_iter w6.heap.size (Y.New w6.heap.size) (Y.New w6.heap.size) ta ca ra8 ra9 tn tc cn cc tn rc8 rc9 (zeros f) (newestV f) W hI8 hI9 hN8 hN9 g.size) ?_
      rintro e W2 ⟨v, rfl, hp, g2⟩
      exact ⟨_, rfl, X.un rfl, hR.new (q := Y.MP.iter w6.heap.size ta tn tc ca cn cc tn (zeros f) (newestV f) (Y.New w6.heap.size) (Y.New w6.heap.size)) g2 rfl hp⟩
    intro ac u w11 hs hd hl ho hR
    have g : Gr w6 w11 := hR.1
    obtain ⟨ra8, rc8, e2, hI8, hN8⟩ := hR.get (i := 2) (Y.MP.intsF w6.heap.size tn (zeros f)) rfl rfl
    obtain ⟨ra9, rc9, e4, hI9, hN9⟩ := hR.get (i := 4) (Y.MP.intsF w6.heap.size tn (newestV f)) rfl rfl
    obtain ⟨ir10, il10, it10, ia10, ic10, ja10, jc10, e5, i010, i110, i210, i310, il410, il510, iN10, jN10, ib110, ib210, ib310⟩ := hR.get (i := 5) (Y.MP.iter w6.heap.size ta tn tc ca cn cc tn (zeros f) (newestV f) (Y.New w6.heap.size) (Y.New w6.heap.size)) rfl rfl
    replace F : Fr ac 20 [(0, .agg #[.slice ta tn tc, .slice ca cn cc]), (1, .pointer (some ⟨w.heap.size, 0, none⟩)), (2, .pointer (some ⟨w3.heap.size, 0, none⟩)), (3, .int .i64 0), (4, .int .i64 (chkE f)), (8, .bool false)] := X.fr hs hd hl _ (by kernel_rfl)
    replace F := F.add (ho 5 15 rfl) e5
    replace F : Fr ac 20 [(0, .agg #[.slice ta tn tc, .slice ca cn cc]), (1, .pointer (some ⟨w.heap.size, 0, none⟩)), (2, .pointer (some ⟨w3.heap.size, 0, none⟩)), (3, .int .i64 0), (4, .int .i64 (chkE f)), (8, .bool false), (15, .func (.func 90) #[] #[.pointer (some ⟨ir10, 0, none⟩), .pointer (some ⟨il10, 0, none⟩), .pointer (some ⟨it10, 0, none⟩)])] := F.sub _ (by kernel_rfl)
    clear e2 e4 e5
    clear hs hd hl ho hR
    replace G := G.trans g
    replace hC := hC.gr g
    replace hf := hf.gr g
    replace hz := hz.gr g
    clear g
    refine X.thenN ?_
    refine Y.block ?_
    have hbt : w3.heap.size < w11.heap.size := lt_cell (hC.at 2 rfl)
    have hSB := Y.sbase_all hok hf0 G (bn := w3.heap.size) hge hbB hl il410 iN10 il510 jN10
    have hRC : Y.RC w11 w3.heap.size (.int .i64 0) w11 := ⟨Only.refl _ _, hbt, hC.at 2 rfl, hz.2⟩
    replace F : Fr ac 20 [(0, .agg #[.slice ta tn tc, .slice ca cn cc]), (1, .pointer (some ⟨w.heap.size, 0, none⟩)), (2, .pointer (some ⟨w3.heap.size, 0, none⟩)), (3, .int .i64 0), (4, .int .i64 (chkE f)), (8, .bool false), (15, .func (.func 90) #[] #[.pointer (some ⟨ir10, 0, none⟩), .pointer (some ⟨il10, 0, none⟩), .pointer (some ⟨it10, 0, none⟩)])] := F.sub _ (by kernel_rfl)
    refine Y.range0 (wB := w11) (S := fun b => b = w3.heap.size ∨ w11.heap.size ≤ b) (Y := fun b => b = w3.heap.size) (f := f) (lo := zeros f) (hi := newestV f) F (by decide) (F.ev 15 _ (by kernel_rfl)) hSB (Only.refl _ _) (fun b h => .inl h) (fun b (h : b = w3.heap.size) => by omega) i210 i010 i110 i310 (by omega) (by omega) (by omega) (fun done W => Y.RC w11 w3.heap.size (.int .i64 (done.length : Nat)) W) hRC (fun xs W W2 h g => h.keep (Nat.le_refl _) g) ?_ ?_
    · have GA := G
      clear F ac G hC hRC
      intro pre x ad c w12 ac hI _ hx hax _ hmem hsx hwx F
      obtain ⟨rest, hall⟩ := hmem
      have hlen := allV_len hok
      rw [allV_enum0 hl, hall, List.length_append, List.length_cons] at hlen
      have G := Gr.refl w12
      replace F : Fr ac 20 [(0, .agg #[.slice ta tn tc, .slice ca cn cc]), (1, .pointer (some ⟨w.heap.size, 0, none⟩)), (2, .pointer (some ⟨w3.heap.size, 0, none⟩)), (3, .int .i64 0), (4, .int .i64 (chkE f)), (8, .bool false), (15, .func (.func 90) #[] #[.pointer (some ⟨ir10, 0, none⟩), .pointer (some ⟨il10, 0, none⟩), .pointer (some ⟨it10, 0, none⟩)])] := F.sub _ (by kernel_rfl)
      have hC : RCells w12 [(⟨w3.heap.size, 0, none⟩, .int .i64 (pre.length : Nat))] := RCells.cons hI.c (RCells.nil _)
      refine Y.block ?_
      refine Y.lit (by kernel_rfl) ?_
      refine Y.pval F (X.w0 rfl) rfl (X.load rfl (F.ev 2 (.pointer (some ⟨w3.heap.size, 0, none⟩)) (by kernel_rfl)) (X.ld1 (Try.agg3 _) (hC.at 0 rfl))) ?_
      clear F ac
      intro ac F
      refine Y.pval F (X.w0 rfl) rfl (X.binop rfl (F.ev 17 (.int .i64 pre.length) (by kernel_rfl)) (X.kc (.int .i64 1) rfl) (X.addI Try.underlying3 rfl (by omega) (by omega))) ?_
      clear F ac
      intro ac F
      refine Y.punit F (X.w0 rfl) rfl (X.store rfl (F.ev 2 (.pointer (some ⟨w3.heap.size, 0, none⟩)) (by kernel_rfl)) (F.ev 18 (.int .i64 ((pre.length : Int) + 1)) (by kernel_rfl)) (Y.st1 (Try.siz3 _) rfl rfl (hI.gr G).c (hI.gr G).fz)) ?_
      clear F ac
      intro ac F
      refine Y.nil ?_
      replace F : Fr ac 20 [(0, .agg #[.slice ta tn tc, .slice ca cn cc]), (1, .pointer (some ⟨w.heap.size, 0, none⟩)), (2, .pointer (some ⟨w3.heap.size, 0, none⟩)), (3, .int .i64 0), (4, .int .i64 (chkE f)), (8, .bool false), (15, .func (.func 90) #[] #[.pointer (some ⟨ir10, 0, none⟩), .pointer (some ⟨il10, 0, none⟩), .pointer (some ⟨it10, 0, none⟩)])] := F.sub _ (by kernel_rfl)
      refine X.blockN ?_
      exact ⟨Y.RC.setOnly (hI.gr G) G _, by have := (hI.gr G).set (.int .i64 ((pre.length : Int) + 1)); simpa using this⟩
    have GA := G
    clear F ac
    intro w13 ac hI hk F
    rw [← allV_enum0 hl] at hI
    have hM : Y.RM w11 _ _ w13 := ⟨hI, hk⟩
    clear hI hk
    have hI := hM
    clear hM
    have hC : RCells w13 [(⟨w3.heap.size, 0, none⟩, .int .i64 ((allV f).length : Nat))] := RCells.cons hI.rc.c (RCells.nil _)
    refine X.blockN ?_
    refine X.thenN ?_
    refine Y.seq ?_
    refine Y.lit (by kernel_rfl) ?_
    refine Y.pval F (X.w0 rfl) rfl (X.load rfl (F.ev 2 (.pointer (some ⟨w3.heap.size, 0, none⟩)) (by kernel_rfl)) (X.ld1 (Try.agg3 _) (hC.at 0 rfl))) ?_
    clear F ac
    intro ac F
    refine Y.punit F (X.w0 rfl) rfl (X.store rfl (F.ev 2 (.pointer (some ⟨w3.heap.size, 0, none⟩)) (by kernel_rfl)) (F.ev 19 (.int .i64 ((allV f).length : Nat)) (by kernel_rfl)) (Y.st1 (Try.siz3 _) rfl rfl hI.rc.c hI.rc.fz)) ?_
    clear F ac
    intro ac F
    replace hI := hI.set (.int .i64 ((allV f).length : Nat))
    generalize w13.setCell _ _ = w99 at *
    refine Y.pval F (X.w0 rfl) rfl (X.assign rfl (X.kc (.int .i64 0) rfl)) ?_
    clear F ac
    intro ac F
    refine Y.nil ?_
    replace F : Fr ac 20 [(0, .agg #[.slice ta tn tc, .slice ca cn cc]), (1, .pointer (some ⟨w.heap.size, 0, none⟩)), (2, .pointer (some ⟨w3.heap.size, 0, none⟩)), (3, .int .i64 0), (4, .int .i64 (chkE f)), (8, .bool false), (15, .func (.func 90) #[] #[.pointer (some ⟨ir10, 0, none⟩), .pointer (some ⟨il10, 0, none⟩), .pointer (some ⟨it10, 0, none⟩)])] [{ target := .collected w11.heap.size, args := #[] }] := F.sub _ (by kernel_rfl)
    refine X.thenN ?_
    refine Y.ret ?_
    have HV : cntV f = ((allV f).length : Int) := by unfold cntV; rw [if_pos HE]
    exact hI.ret F rfl (fun _ => Try.agg3 _) (by kernel_rfl) (by kernel_rfl) (fun W2 h2 _ => ⟨by rw [HV, HE], h2.grow GA hge⟩)
  | true =>
    try rw [h7] at F
    have h7p : ¬ (chkE f : Int) = 0 := by simpa using h7
    have HV : cntV f = 0 := if_neg h7p
    refine Y.condT (F.ev 8 (.bool true) (by kernel_rfl)) ?_
    refine Y.seq ?_
    refine Y.lit (by kernel_rfl) ?_
    refine Y.pval F (X.w0 rfl) rfl (X.move rfl (F.ev 4 (.int .i64 (chkE f)) (by kernel_rfl))) ?_
    clear F ac
    intro ac F
    refine Y.punit F (X.w0 rfl) rfl (X.store rfl (F.ev 2 (.pointer (some ⟨w3.heap.size, 0, none⟩)) (by kernel_rfl)) (X.kc (.int .i64 0) rfl) (Y.st1 (Try.siz3 _) rfl rfl (hC.at 2 rfl) hz.2)) ?_
    clear F ac
    intro ac F
    replace G := G.setCell (p := ⟨w3.heap.size, 0, none⟩) hge (.int .i64 0)
    have hcv : (w6.setCell ⟨w3.heap.size, 0, none⟩ (.int .i64 0)).cell? ⟨w3.heap.size, 0, none⟩ = some (.int .i64 0) := by have := hC.at 2 rfl; simp [go_sem, this]
    clear hC hz
    generalize w6.setCell ⟨w3.heap.size, 0, none⟩ (.int .i64 0) = w14 at *
    refine Y.pval F (X.w0 rfl) rfl (X.assign rfl (F.ev 9 (.int .i64 (chkE f)) (by kernel_rfl))) ?_
    clear F ac
    intro ac F
    refine Y.nil ?_
    replace F : Fr ac 20 [(0, .agg #[.slice ta tn tc, .slice ca cn cc]), (1, .pointer (some ⟨w.heap.size, 0, none⟩)), (2, .pointer (some ⟨w3.heap.size, 0, none⟩)), (3, .int .i64 (chkE f)), (4, .int .i64 (chkE f)), (8, .bool true)] := F.sub _ (by kernel_rfl)
    refine X.thenN ?_
    refine Y.ret ?_
    refine X.thenR ?_
    exact Y.ret0 F (Y.rc2 F rfl (Try.agg3 _) (by kernel_rfl) hcv (by kernel_rfl)) ⟨by rw [HV], G⟩
end
end Go.Proofs.Ytlilojpnhmfnaaa
