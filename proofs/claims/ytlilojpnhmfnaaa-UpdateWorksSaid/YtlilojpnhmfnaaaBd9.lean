/- Several texts of this claim in one file. (1) Contracts: the sum of a state. (2) Contract: the reference Count. (3) Plain law: the states come in ascending order; the newest one by both rules. (4) Contract: Count. (5) Plain law: the reference's table of roads holds the planner's rests. No program in sight. (6) Plain law: the roads lead the planner's way; the reference's plan; the binary search finds the least budget. No program in sight. -/
import Derived.Test.YtlilojpnhmfnaaaBd3
import Derived.Test.YtlilojpnhmfnaaaBd8
import Derived.Test.YtlilojpnhmfnaaaBd6
import Derived.Test.YtlilojpnhmfnaaaBd2
namespace Go.Proofs.Ytlilojpnhmfnaaa
section
open Go.RowKit

def sumTo (xs : List Int) : Nat → Int
  | 0 => 0
  | k + 1 => sumTo xs k + xs[k]?.getD 0
def sumV (xs : List Int) : Int := sumTo xs xs.length
theorem sumTo_bd {xs : List Int} (h : ∀ c : Nat, 0 ≤ xs[c]?.getD 0 ∧ xs[c]?.getD 0 ≤ 3) : ∀ k, k ≤ 6 → 0 ≤ sumTo xs k ∧ sumTo xs k ≤ 3 * k := by
  intro k
  induction k with
  | zero => intro _; simp [sumTo]
  | succ k ih => intro hk; have := ih (by omega); have := h k; simp only [sumTo]; omega

set_option maxRecDepth 100000 in
set_option maxHeartbeats 400000 in
theorem sum2_any (a : Option Addr) (n c : Nat) (xs : List Int) (w : World) (hx : Ints w a n xs) (hn : n ≤ 6) (hb : Hid (∀ c : Nat, 0 ≤ xs[c]?.getD 0 ∧ xs[c]?.getD 0 ≤ 3)) :
    Calls Try.prog 86 #[.slice a n c] w fun e w' => e = .returned (.int .i64 (sumV xs)) ∧ Gr w w' := by
  have G := Gr.refl w
  refine X.calls 18 Try.func86 rfl rfl ?_
  intro A F0
  have F : Fr A 18 [(0, .slice a n c)] := F0.sub _ (by kernel_rfl)
  clear F0
  refine wp_seq ?_
  refine region_x F [some (.int .i64 0)] (X.RG w) rfl ⟨by kernel_rfl, of_decide_eq_true (by kernel_rfl), by kernel_rfl, by kernel_rfl, by kernel_rfl⟩ (fun _ => ⟨Gr.refl _, Gr.drew _⟩) ⟨?_, trivial⟩ ?_
  · intro A done u W S g
    replace g : Gr w W := g
    exact X.val (X.w0 rfl) rfl (X.assign rfl rfl) g
  intro A u w3 hs hd hl _ g
  replace g : Gr w w3 := g
  replace F : Fr A 18 [(0, .slice a n c), (2, .int .i64 0)] := X.fr hs hd hl _ (by kernel_rfl)
  clear hs hd hl
  replace G := G.trans g
  replace hx := hx.gr g
  clear g
  refine X.thenN ?_
  refine wp_seq ?_
  refine region_x F [some (.int .i64 0)] (X.RG w3) rfl ⟨by kernel_rfl, of_decide_eq_true (by kernel_rfl), by kernel_rfl, by kernel_rfl, by kernel_rfl⟩ (fun _ => ⟨Gr.refl _, Gr.drew _⟩) ⟨?_, trivial⟩ ?_
  · intro A done u W S g
    replace g : Gr w3 W := g
    exact X.val (X.w0 rfl) rfl (X.assign rfl rfl) g
  intro A u w4 hs hd hl _ g
  replace g : Gr w3 w4 := g
  replace F : Fr A 18 [(0, .slice a n c), (2, .int .i64 0), (3, .int .i64 0)] := X.fr hs hd hl _ (by kernel_rfl)
  clear hs hd hl
  replace G := G.trans g
  replace hx := hx.gr g
  clear g
  refine X.thenN ?_
  refine wp_seq ?_
  refine wp_seq ?_
  refine region_x F [some (.int .i64 0)] (X.RG w4) rfl ⟨by kernel_rfl, of_decide_eq_true (by kernel_rfl), by kernel_rfl, by kernel_rfl, by kernel_rfl⟩ (fun _ => ⟨Gr.refl _, Gr.drew _⟩) ⟨?_, trivial⟩ ?_
  · intro A done u W S g
    replace g : Gr w4 W := g
    exact X.val (X.w0 rfl) rfl (X.assign rfl rfl) g
  intro A u w5 hs hd hl _ g
  replace g : Gr w4 w5 := g
  replace F : Fr A 18 [(0, .slice a n c), (2, .int .i64 0), (3, .int .i64 0), (4, .int .i64 0)] := X.fr hs hd hl _ (by kernel_rfl)
  clear hs hd hl
  replace G := G.trans g
  replace hx := hx.gr g
  clear g
  refine X.thenN ?_
  refine wp_block ?_
  have hxB := hx
  have GB := G
  refine wp_loop_ghost (fun m A wr => ∃ k : Nat, m = n - k ∧ Gr w5 wr ∧ k ≤ n ∧ Fr A 18 [(0, .slice a n c), (2, .int .i64 0), (3, .int .i64 (sumTo xs k)), (4, .int .i64 k)]) _ ⟨0, rfl, Gr.refl _, Nat.zero_le _, F.sub _ (by kernel_rfl)⟩ ?_
  clear F
  intro m A w6 hI
  obtain ⟨k, rfl, gr, hk, F⟩ := hI
  replace G := GB.trans gr
  replace hx := hxB.gr gr
  have GB_ := gr
  clear gr
  refine wp_seq ?_
  refine wp_seq ?_
  refine region_x F [some (.int .i64 k), some (.slice a n c), some (.int .i64 n), some (.bool (decide ((k : Int) < n)))] (X.RG w6) rfl ⟨by kernel_rfl, of_decide_eq_true (by kernel_rfl), by kernel_rfl, by kernel_rfl, by kernel_rfl⟩ (fun _ => ⟨Gr.refl _, Gr.drew _⟩) ⟨?_, ?_, ?_, ?_, trivial⟩ ?_
  · intro A done u W S g
    replace g : Gr w6 W := g
    exact X.val (X.w0 rfl) rfl (X.move rfl (S.ev 4 (.int .i64 k) (by kernel_rfl))) g
  · intro A done u W S g
    replace g : Gr w6 W := g
    exact X.val (X.w0 rfl) rfl (X.move rfl (S.ev 0 (.slice a n c) (by kernel_rfl))) g
  · intro A done u W S g
    replace g : Gr w6 W := g
    exact X.val (X.w0 rfl) rfl (X.len1 Try.underlying26 rfl (S.ev 6 (.slice a n c) (by kernel_rfl))) g
  · intro A done u W S g
    replace g : Gr w6 W := g
    exact X.val (X.w0 rfl) rfl (X.binop rfl (S.ev 5 (.int .i64 k) (by kernel_rfl)) (S.ev 7 (.int .i64 n) (by kernel_rfl)) (X.lssI Try.underlying3 rfl)) g
  intro A u w7 hs hd hl _ g
  replace g : Gr w6 w7 := g
  replace F : Fr A 18 [(0, .slice a n c), (2, .int .i64 0), (3, .int .i64 (sumTo xs k)), (4, .int .i64 k), (8, .bool (decide ((k : Int) < n)))] := X.fr hs hd hl _ (by kernel_rfl)
  clear hs hd hl
  replace G := G.trans g
  replace GB_ := GB_.trans g
  replace hx := hx.gr g
  clear g
  refine X.thenN ?_
  cases h8 : decide ((k : Int) < n) with
  | false =>
    try rw [h8] at F
    have h8p : ¬ ((k : Int) < n) := of_decide_eq_false h8
    obtain rfl : n = k := by omega
    have HF : Hid (sumTo xs n = sumV xs) := Lib.hid (by rw [← hx.len]; rfl)
    refine wp_cond_false (F.ev 8 (.bool false) rfl) ?_
    refine wp_exit ?_
    refine X.thenX ?_
    refine X.thenX ?_
    refine X.blockX ?_
    refine X.thenN ?_
    refine wp_seq ?_
    refine region_x F [some (.int .i64 (sumTo xs n)), some (.int .i64 (sumTo xs n))] (X.RG w7) rfl ⟨by kernel_rfl, of_decide_eq_true (by kernel_rfl), by kernel_rfl, by kernel_rfl, by kernel_rfl⟩ (fun _ => ⟨Gr.refl _, Gr.drew _⟩) ⟨?_, ?_, trivial⟩ ?_
    · intro A done u W S g
      replace g : Gr w7 W := g
      exact X.val (X.w0 rfl) rfl (X.move rfl (S.ev 3 (.int .i64 (sumTo xs n)) (by kernel_rfl))) g
    · intro A done u W S g
      replace g : Gr w7 W := g
      exact X.val (X.w0 rfl) rfl (X.assign rfl (S.ev 17 (.int .i64 (sumTo xs n)) (by kernel_rfl))) g
    intro A u w9 hs hd hl _ g
    replace g : Gr w7 w9 := g
    replace F : Fr A 18 [(0, .slice a n c), (2, .int .i64 (sumTo xs n)), (3, .int .i64 (sumTo xs n)), (4, .int .i64 n), (8, .bool false)] := X.fr hs hd hl _ (by kernel_rfl)
    clear hs hd hl
    replace G := G.trans g
    replace GB_ := GB_.trans g
    replace hx := hx.gr g
    clear g
    refine X.thenN ?_
    refine wp_ret ?_
    exact X.ret1 F rfl rfl ⟨by rw [HF.out], G⟩
  | true =>
    try rw [h8] at F
    have h8p : ((k : Int) < n) := of_decide_eq_true h8
    have hlt : k < n := by omega
    obtain ⟨pd, hpa, hpb, hpc⟩ := hx.at hlt
    subst hpa
    have hC : RCells w7 [(pd.add k, .int .i64 (xs[k]?.getD 0))] := RCells.cons hpc (RCells.nil _)
    have hbd := sumTo_bd (xs := xs) hb.out k (by omega)
    have hbk := hb.out k
    refine wp_cond_true (F.ev 8 (.bool true) rfl) ?_
    refine wp_skip ?_
    refine X.thenN ?_
    refine wp_seq ?_
    refine wp_block ?_
    refine region_x F [some (.int .i64 (sumTo xs k)), some (.slice (some pd) n c), some (.int .i64 k), some (.pointer (some (pd.add k))), some (.int .i64 (xs[k]?.getD 0)), some (.int .i64 ((sumTo xs k : Int) + (xs[k]?.getD 0))), some (.int .i64 ((sumTo xs k : Int) + (xs[k]?.getD 0)))] (X.RG w7) rfl ⟨by kernel_rfl, of_decide_eq_true (by kernel_rfl), by kernel_rfl, by kernel_rfl, by kernel_rfl⟩ (fun _ => ⟨Gr.refl _, Gr.drew _⟩) ⟨?_, ?_, ?_, ?_, ?_, ?_, ?_, trivial⟩ ?_
    · intro A done u W S g
      replace g : Gr w7 W := g
      exact X.val (X.w0 rfl) rfl (X.move rfl (S.ev 3 (.int .i64 (sumTo xs k)) (by kernel_rfl))) g
    · intro A done u W S g
      replace g : Gr w7 W := g
      exact X.val (X.w0 rfl) rfl (X.move rfl (S.ev 0 (.slice (some pd) n c) (by kernel_rfl))) g
    · intro A done u W S g
      replace g : Gr w7 W := g
      exact X.val (X.w0 rfl) rfl (X.move rfl (S.ev 4 (.int .i64 k) (by kernel_rfl))) g
    · intro A done u W S g
      replace g : Gr w7 W := g
      exact X.val (X.w0 rfl) rfl (X.index rfl (S.ev 12 (.slice (some pd) n c) (by kernel_rfl)) (S.ev 13 (.int .i64 k) (by kernel_rfl)) (X.idx Try.underlying26 (Try.siz3 _) (by omega) rfl (by rw [Nat.mul_one]))) g
    · intro A done u W S g
      replace g : Gr w7 W := g
      exact X.val (X.w0 rfl) rfl (X.load rfl (S.ev 14 (.pointer (some (pd.add k))) (by kernel_rfl)) (X.ld1 (Try.agg3 _) ((hC.gr g).at 0 rfl))) g
    · intro A done u W S g
      replace g : Gr w7 W := g
      exact X.val (X.w0 rfl) rfl (X.binop rfl (S.ev 11 (.int .i64 (sumTo xs k)) (by kernel_rfl)) (S.ev 15 (.int .i64 (xs[k]?.getD 0)) (by kernel_rfl)) (X.addI Try.underlying3 rfl (by omega) (by omega))) g
    · intro A done u W S g
      replace g : Gr w7 W := g
      exact X.val (X.w0 rfl) rfl (X.assign rfl (S.ev 16 (.int .i64 ((sumTo xs k : Int) + (xs[k]?.getD 0))) (by kernel_rfl))) g
    intro A u w10 hs hd hl _ g
    replace g : Gr w7 w10 := g
    replace F : Fr A 18 [(0, .slice (some pd) n c), (2, .int .i64 0), (3, .int .i64 ((sumTo xs k : Int) + (xs[k]?.getD 0))), (4, .int .i64 k), (8, .bool true)] := X.fr hs hd hl _ (by kernel_rfl)
    clear hs hd hl
    replace G := G.trans g
    replace hC := hC.gr g
    replace GB_ := GB_.trans g
    replace hx := hx.gr g
    clear g
    refine X.blockN ?_
    refine X.thenN ?_
    refine region_x F [some (.int .i64 k), some (.int .i64 ((k : Int) + 1)), some (.int .i64 ((k : Int) + 1))] (X.RG w10) rfl ⟨by kernel_rfl, of_decide_eq_true (by kernel_rfl), by kernel_rfl, by kernel_rfl, by kernel_rfl⟩ (fun _ => ⟨Gr.refl _, Gr.drew _⟩) ⟨?_, ?_, ?_, trivial⟩ ?_
    · intro A done u W S g
      replace g : Gr w10 W := g
      exact X.val (X.w0 rfl) rfl (X.move rfl (S.ev 4 (.int .i64 k) (by kernel_rfl))) g
    · intro A done u W S g
      replace g : Gr w10 W := g
      exact X.val (X.w0 rfl) rfl (X.binop rfl (S.ev 9 (.int .i64 k) (by kernel_rfl)) rfl (X.addI Try.underlying3 rfl (by omega) (by omega))) g
    · intro A done u W S g
      replace g : Gr w10 W := g
      exact X.val (X.w0 rfl) rfl (X.assign rfl (S.ev 10 (.int .i64 ((k : Int) + 1)) (by kernel_rfl))) g
    intro A u w11 hs hd hl _ g
    replace g : Gr w10 w11 := g
    replace F : Fr A 18 [(0, .slice (some pd) n c), (2, .int .i64 0), (3, .int .i64 ((sumTo xs k : Int) + (xs[k]?.getD 0))), (4, .int .i64 ((k : Int) + 1)), (8, .bool true)] := X.fr hs hd hl _ (by kernel_rfl)
    clear hs hd hl
    replace G := G.trans g
    replace hC := hC.gr g
    replace GB_ := GB_.trans g
    replace hx := hx.gr g
    clear g
    refine X.thenN ?_
    refine ⟨_, ?_, k + 1, rfl, GB_, by omega, F.sub _ (by kernel_rfl)⟩
    omega

set_option maxRecDepth 100000 in
set_option maxHeartbeats 400000 in
theorem sum_any (a : Option Addr) (n c : Nat) (xs : List Int) (w : World) (hx : Ints w a n xs) (hn : n ≤ 6) (hb : Hid (∀ c : Nat, 0 ≤ xs[c]?.getD 0 ∧ xs[c]?.getD 0 ≤ 3)) :
    Calls Try.prog 84 #[.slice a n c] w fun e w' => e = .returned (.int .i64 (sumV xs)) ∧ Gr w w' := by
  have G := Gr.refl w
  refine X.calls 16 Try.func84 rfl rfl ?_
  intro A F0
  have F : Fr A 16 [(0, .slice a n c)] := F0.sub _ (by kernel_rfl)
  clear F0
  refine wp_seq ?_
  refine region_x F [some (.int .i64 0)] (X.RG w) rfl ⟨by kernel_rfl, of_decide_eq_true (by kernel_rfl), by kernel_rfl, by kernel_rfl, by kernel_rfl⟩ (fun _ => ⟨Gr.refl _, Gr.drew _⟩) ⟨?_, trivial⟩ ?_
  · intro A done u W S g
    replace g : Gr w W := g
    exact X.val (X.w0 rfl) rfl (X.assign rfl rfl) g
  intro A u w3 hs hd hl _ g
  replace g : Gr w w3 := g
  replace F : Fr A 16 [(0, .slice a n c), (2, .int .i64 0)] := X.fr hs hd hl _ (by kernel_rfl)
  clear hs hd hl
  replace G := G.trans g
  replace hx := hx.gr g
  clear g
  refine X.thenN ?_
  refine wp_seq ?_
  refine wp_seq ?_
  refine region_x F [some (.slice a n c), some (.int .i64 n), some (.int .i64 0)] (X.RG w3) rfl ⟨by kernel_rfl, of_decide_eq_true (by kernel_rfl), by kernel_rfl, by kernel_rfl, by kernel_rfl⟩ (fun _ => ⟨Gr.refl _, Gr.drew _⟩) ⟨?_, ?_, ?_, trivial⟩ ?_
  · intro A done u W S g
    replace g : Gr w3 W := g
    exact X.val (X.w0 rfl) rfl (X.move rfl (S.ev 0 (.slice a n c) (by kernel_rfl))) g
  · intro A done u W S g
    replace g : Gr w3 W := g
    exact X.val (X.w0 rfl) rfl (X.len1 Try.underlying26 rfl (S.ev 5 (.slice a n c) (by kernel_rfl))) g
  · intro A done u W S g
    replace g : Gr w3 W := g
    exact X.val (X.w0 rfl) rfl (X.move rfl rfl) g
  intro A u w4 hs hd hl _ g
  replace g : Gr w3 w4 := g
  replace F : Fr A 16 [(0, .slice a n c), (2, .int .i64 0), (5, .slice a n c), (6, .int .i64 n), (7, .int .i64 0)] := X.fr hs hd hl _ (by kernel_rfl)
  clear hs hd hl
  replace G := G.trans g
  replace hx := hx.gr g
  clear g
  refine X.thenN ?_
  refine wp_block ?_
  have hxB := hx
  have GB := G
  refine wp_loop_ghost (fun m A wr => ∃ k : Nat, m = n - k ∧ Gr w4 wr ∧ k ≤ n ∧ Fr A 16 [(0, .slice a n c), (2, .int .i64 (sumTo xs k)), (5, .slice a n c), (6, .int .i64 n), (7, .int .i64 k)]) _ ⟨0, rfl, Gr.refl _, Nat.zero_le _, F.sub _ (by kernel_rfl)⟩ ?_
  clear F
  intro m A w5 hI
  obtain ⟨k, rfl, gr, hk, F⟩ := hI
  replace G := GB.trans gr
  replace hx := hxB.gr gr
  have GB_ := gr
  clear gr
  refine wp_seq ?_
  refine region_x F [some (.bool (decide ((k : Int) < n)))] (X.RG w5) rfl ⟨by kernel_rfl, of_decide_eq_true (by kernel_rfl), by kernel_rfl, by kernel_rfl, by kernel_rfl⟩ (fun _ => ⟨Gr.refl _, Gr.drew _⟩) ⟨?_, trivial⟩ ?_
  · intro A done u W S g
    replace g : Gr w5 W := g
    exact X.val (X.w0 rfl) rfl (X.binop rfl (S.ev 7 (.int .i64 k) (by kernel_rfl)) (S.ev 6 (.int .i64 n) (by kernel_rfl)) (X.lssI Try.underlying3 rfl)) g
  intro A u w6 hs hd hl _ g
  replace g : Gr w5 w6 := g
  replace F : Fr A 16 [(0, .slice a n c), (2, .int .i64 (sumTo xs k)), (5, .slice a n c), (6, .int .i64 n), (7, .int .i64 k), (8, .bool (decide ((k : Int) < n)))] := X.fr hs hd hl _ (by kernel_rfl)
  clear hs hd hl
  replace G := G.trans g
  replace GB_ := GB_.trans g
  replace hx := hx.gr g
  clear g
  refine X.thenN ?_
  refine wp_seq ?_
  cases h7 : decide ((k : Int) < n) with
  | false =>
    try rw [h7] at F
    have h7p : ¬ ((k : Int) < n) := of_decide_eq_false h7
    obtain rfl : n = k := by omega
    have HF : Hid (sumTo xs n = sumV xs) := Lib.hid (by rw [← hx.len]; rfl)
    refine wp_cond_false (F.ev 8 (.bool false) rfl) ?_
    refine wp_exit ?_
    refine X.thenX ?_
    refine X.thenX ?_
    refine X.blockX ?_
    refine X.thenN ?_
    refine wp_seq ?_
    refine region_x F [some (.int .i64 (sumTo xs n)), some (.int .i64 (sumTo xs n))] (X.RG w6) rfl ⟨by kernel_rfl, of_decide_eq_true (by kernel_rfl), by kernel_rfl, by kernel_rfl, by kernel_rfl⟩ (fun _ => ⟨Gr.refl _, Gr.drew _⟩) ⟨?_, ?_, trivial⟩ ?_
    · intro A done u W S g
      replace g : Gr w6 W := g
      exact X.val (X.w0 rfl) rfl (X.move rfl (S.ev 2 (.int .i64 (sumTo xs n)) (by kernel_rfl))) g
    · intro A done u W S g
      replace g : Gr w6 W := g
      exact X.val (X.w0 rfl) rfl (X.assign rfl (S.ev 15 (.int .i64 (sumTo xs n)) (by kernel_rfl))) g
    intro A u w8 hs hd hl _ g
    replace g : Gr w6 w8 := g
    replace F : Fr A 16 [(0, .slice a n c), (2, .int .i64 (sumTo xs n)), (5, .slice a n c), (6, .int .i64 n), (7, .int .i64 n), (8, .bool false)] := X.fr hs hd hl _ (by kernel_rfl)
    clear hs hd hl
    replace G := G.trans g
    replace GB_ := GB_.trans g
    replace hx := hx.gr g
    clear g
    refine X.thenN ?_
    refine wp_ret ?_
    exact X.ret1 F rfl rfl ⟨by rw [HF.out], G⟩
  | true =>
    try rw [h7] at F
    have h7p : ((k : Int) < n) := of_decide_eq_true h7
    have hlt : k < n := by omega
    obtain ⟨pd, hpa, hpb, hpc⟩ := hx.at hlt
    subst hpa
    have hC : RCells w6 [(pd.add k, .int .i64 (xs[k]?.getD 0))] := RCells.cons hpc (RCells.nil _)
    have hbd := sumTo_bd (xs := xs) hb.out k (by omega)
    have hbk := hb.out k
    refine wp_cond_true (F.ev 8 (.bool true) rfl) ?_
    refine wp_skip ?_
    refine X.thenN ?_
    refine wp_seq ?_
    refine wp_block ?_
    refine wp_seq ?_
    refine region_x F [some (.pointer (some (pd.add k))), some (.int .i64 (xs[k]?.getD 0)), some (.int .i64 (xs[k]?.getD 0))] (X.RG w6) rfl ⟨by kernel_rfl, of_decide_eq_true (by kernel_rfl), by kernel_rfl, by kernel_rfl, by kernel_rfl⟩ (fun _ => ⟨Gr.refl _, Gr.drew _⟩) ⟨?_, ?_, ?_, trivial⟩ ?_
    · intro A done u W S g
      replace g : Gr w6 W := g
      exact X.val (X.w0 rfl) rfl (X.index rfl (S.ev 5 (.slice (some pd) n c) (by kernel_rfl)) (S.ev 7 (.int .i64 k) (by kernel_rfl)) (X.idx Try.underlying26 (Try.siz3 _) (by omega) rfl (by rw [Nat.mul_one]))) g
    · intro A done u W S g
      replace g : Gr w6 W := g
      exact X.val (X.w0 rfl) rfl (X.load rfl (S.ev 9 (.pointer (some (pd.add k))) (by kernel_rfl)) (X.ld1 (Try.agg3 _) ((hC.gr g).at 0 rfl))) g
    · intro A done u W S g
      replace g : Gr w6 W := g
      exact X.val (X.w0 rfl) rfl (X.assign rfl (S.ev 10 (.int .i64 (xs[k]?.getD 0)) (by kernel_rfl))) g
    intro A u w9 hs hd hl _ g
    replace g : Gr w6 w9 := g
    replace F : Fr A 16 [(0, .slice (some pd) n c), (2, .int .i64 (sumTo xs k)), (4, .int .i64 (xs[k]?.getD 0)), (5, .slice (some pd) n c), (6, .int .i64 n), (7, .int .i64 k), (8, .bool true)] := X.fr hs hd hl _ (by kernel_rfl)
    clear hs hd hl
    replace G := G.trans g
    replace hC := hC.gr g
    replace GB_ := GB_.trans g
    replace hx := hx.gr g
    clear g
    refine X.thenN ?_
    refine region_x F [some (.int .i64 (sumTo xs k)), some (.int .i64 (xs[k]?.getD 0)), some (.int .i64 ((sumTo xs k : Int) + (xs[k]?.getD 0))), some (.int .i64 ((sumTo xs k : Int) + (xs[k]?.getD 0)))] (X.RG w9) rfl ⟨by kernel_rfl, of_decide_eq_true (by kernel_rfl), by kernel_rfl, by kernel_rfl, by kernel_rfl⟩ (fun _ => ⟨Gr.refl _, Gr.drew _⟩) ⟨?_, ?_, ?_, ?_, trivial⟩ ?_
    · intro A done u W S g
      replace g : Gr w9 W := g
      exact X.val (X.w0 rfl) rfl (X.move rfl (S.ev 2 (.int .i64 (sumTo xs k)) (by kernel_rfl))) g
    · intro A done u W S g
      replace g : Gr w9 W := g
      exact X.val (X.w0 rfl) rfl (X.move rfl (S.ev 4 (.int .i64 (xs[k]?.getD 0)) (by kernel_rfl))) g
    · intro A done u W S g
      replace g : Gr w9 W := g
      exact X.val (X.w0 rfl) rfl (X.binop rfl (S.ev 11 (.int .i64 (sumTo xs k)) (by kernel_rfl)) (S.ev 12 (.int .i64 (xs[k]?.getD 0)) (by kernel_rfl)) (X.addI Try.underlying3 rfl (by omega) (by omega))) g
    · intro A done u W S g
      replace g : Gr w9 W := g
      exact X.val (X.w0 rfl) rfl (X.assign rfl (S.ev 13 (.int .i64 ((sumTo xs k : Int) + (xs[k]?.getD 0))) (by kernel_rfl))) g
    intro A u w10 hs hd hl _ g
    replace g : Gr w9 w10 := g
    replace F : Fr A 16 [(0, .slice (some pd) n c), (2, .int .i64 ((sumTo xs k : Int) + (xs[k]?.getD 0))), (4, .int .i64 (xs[k]?.getD 0)), (5, .slice (some pd) n c), (6, .int .i64 n), (7, .int .i64 k), (8, .bool true)] := X.fr hs hd hl _ (by kernel_rfl)
    clear hs hd hl
    replace G := G.trans g
    replace hC := hC.gr g
    replace GB_ := GB_.trans g
    replace hx := hx.gr g
    clear g
    refine X.blockN ?_
    refine X.thenN ?_
    refine region_x F [some (.int .i64 ((k : Int) + 1)), some (.int .i64 ((k : Int) + 1))] (X.RG w10) rfl ⟨by kernel_rfl, of_decide_eq_true (by kernel_rfl), by kernel_rfl, by kernel_rfl, by kernel_rfl⟩ (fun _ => ⟨Gr.refl _, Gr.drew _⟩) ⟨?_, ?_, trivial⟩ ?_
    · intro A done u W S g
      replace g : Gr w10 W := g
      exact X.val (X.w0 rfl) rfl (X.binop rfl (S.ev 7 (.int .i64 k) (by kernel_rfl)) rfl (X.addI Try.underlying3 rfl (by omega) (by omega))) g
    · intro A done u W S g
      replace g : Gr w10 W := g
      exact X.val (X.w0 rfl) rfl (X.move rfl (S.ev 14 (.int .i64 ((k : Int) + 1)) (by kernel_rfl))) g
    intro A u w11 hs hd hl _ g
    replace g : Gr w10 w11 := g
    replace F : Fr A 16 [(0, .slice (some pd) n c), (2, .int .i64 ((sumTo xs k : Int) + (xs[k]?.getD 0))), (4, .int .i64 (xs[k]?.getD 0)), (5, .slice (some pd) n c), (6, .int .i64 n), (7, .int .i64 ((k : Int) + 1)), (8, .bool true)] := X.fr hs hd hl _ (by kernel_rfl)
    clear hs hd hl
    replace G := G.trans g
    replace hC := hC.gr g
    replace GB_ := GB_.trans g
    replace hx := hx.gr g
    clear g
    refine X.thenN ?_
    refine ⟨_, ?_, k + 1, rfl, GB_, by omega, F.sub _ (by kernel_rfl)⟩
    omega
end
section
open Go.RowKit

theorem chkE_zero {f : Fl} (h : chkE f = 0) : chkB f = true := by
  unfold chkE at h
  split at h
  · assumption
  · cases h
def cntV (f : Fl) : Int := if chkE f = 0 then ((allV f).length : Int) else 0

set_option maxRecDepth 100000 in
set_option maxHeartbeats 400000 in
theorem count2_any (ta ca : Option Addr) (tn tc cn cc : Nat) (f : Fl) (w : World) (hf : FlAt w ta tn ca cn f) :
    Calls Try.prog 41 #[.agg #[.slice ta tn tc, .slice ca cn cc]] w fun e w' => e = .returned (.tuple #[.int .i64 (cntV f), .int .i64 (chkE f)]) ∧ Gr w w' := by
  have G := Gr.refl w
  refine X.calls 13 Try.func41 rfl rfl ?_
  intro ac F0
  have F : Fr ac 13 [(0, .agg #[.slice ta tn tc, .slice ca cn cc])] := F0.sub _ (by kernel_rfl)
  clear F0
  refine wp_seq ?_
  refine wp_region_lit ?_
  refine X.pval F (X.w0 rfl) rfl (X.box rfl (F.ev 0 (.agg #[.slice ta tn tc, .slice ca cn cc]) (by kernel_rfl)) X.bx) ?_
  clear F ac
  intro ac F
  have g := Gr.alloc w (.cells #[.slice ta tn tc, .slice ca cn cc] 25)
  have hb := heap_alloc_new w (.cells #[.slice ta tn tc, .slice ca cn cc] 25)
  have hbl : w.heap.size < (w.alloc (.cells #[.slice ta tn tc, .slice ca cn cc] 25)).heap.size := by simp
  have hC2 : RCells (w.alloc (.cells #[.slice ta tn tc, .slice ca cn cc] 25)) [(⟨w.heap.size, 0, none⟩, .slice ta tn tc), (⟨w.heap.size, 1, none⟩, .slice ca cn cc)] := (RCells.nil w).box (b := w.heap.size) #[.slice ta tn tc, .slice ca cn cc] 25 rfl
  generalize w.alloc (.cells #[.slice ta tn tc, .slice ca cn cc] 25) = w3 at *
  replace G := G.trans g
  have hC := hC2
  clear hC2
  replace hf := hf.gr g
  clear g hb hbl
  refine X.pval F (X.w0 rfl) rfl (X.assign rfl (X.kc (.int .i64 0) rfl)) ?_
  clear F ac
  intro ac F
  refine X.pval F (X.w0 rfl) rfl (X.assign rfl (X.kc (.int .i64 0) rfl)) ?_
  clear F ac
  intro ac F
  refine wpList_nil ?_
  replace F : Fr ac 13 [(0, .agg #[.slice ta tn tc, .slice ca cn cc]), (1, .pointer (some ⟨w.heap.size, 0, none⟩)), (2, .int .i64 0), (3, .int .i64 0)] := F.sub _ (by kernel_rfl)
  refine X.thenN ?_
  refine wp_seq ?_
  refine wp_seq ?_
  refine wp_region_lit ?_
  refine X.pval F (X.w0 rfl) rfl (X.load rfl (F.ev 1 (.pointer (some ⟨w.heap.size, 0, none⟩)) (by kernel_rfl)) (X.ldN (Try.agg25 _) (Try.siz25 _) (X.c2 (hC.at 0 rfl) (hC.at 1 rfl)))) ?_
  clear F ac
  intro ac F
  refine X.pcall F (X.w0 rfl) rfl (X.enter (F := 37) rfl (X.kc (.func (.func 37) #[] #[]) rfl) (X.a1 (F.ev 5 (.agg #[.slice ta tn tc, .slice ca cn cc]) (by kernel_rfl))) (enters_of Try.func37 (by kernel_rfl) rfl _)) (check2_any ta ca tn tc cn cc f w3 hf) ?_
  clear F ac
  rintro e w4 ⟨rfl, g⟩
  refine ⟨_, rfl, ?_⟩
  intro ac F
  replace G := G.trans g
  replace hC := hC.gr g
  replace hf := hf.gr g
  clear g
  refine X.pval F (X.w0 rfl) rfl (X.assign rfl (F.ev 6 (.int .i64 (chkE f)) (by kernel_rfl))) ?_
  clear F ac
  intro ac F
  refine wpList_nil ?_
  replace F : Fr ac 13 [(0, .agg #[.slice ta tn tc, .slice ca cn cc]), (1, .pointer (some ⟨w.heap.size, 0, none⟩)), (2, .int .i64 0), (3, .int .i64 0), (4, .int .i64 (chkE f))] := F.sub _ (by kernel_rfl)
  refine X.thenN ?_
  refine wp_seq ?_
  refine wp_region_lit ?_
  refine X.pval F (X.w0 rfl) rfl (X.move rfl (F.ev 4 (.int .i64 (chkE f)) (by kernel_rfl))) ?_
  clear F ac
  intro ac F
  refine X.pval F (X.w0 rfl) rfl (X.binop rfl (F.ev 7 (.int .i64 (chkE f)) (by kernel_rfl)) (X.kc (.int .i64 0) rfl) (X.neqI Try.underlying31 rfl)) ?_
  clear F ac
  intro ac F
  refine wpList_nil ?_
  replace F : Fr ac 13 [(0, .agg #[.slice ta tn tc, .slice ca cn cc]), (1, .pointer (some ⟨w.heap.size, 0, none⟩)), (2, .int .i64 0), (3, .int .i64 0), (4, .int .i64 (chkE f)), (8, .bool ((chkE f : Int) != 0))] := F.sub _ (by kernel_rfl)
  refine X.thenN ?_
  cases h5 : ((chkE f : Int) != 0) with
  | false =>
    try rw [h5] at F
    have h5p : (chkE f : Int) = 0 := by simpa using h5
    have hok : FlOk f := chkB_ok (chkE_zero h5p)
    refine wp_cond_false (F.ev 8 (.bool false) (by kernel_rfl)) ?_
    refine wp_skip ?_
    refine X.thenN ?_
    refine wp_seq ?_
    refine wp_region_lit ?_
    refine X.pval F (X.w0 rfl) rfl (X.load rfl (F.ev 1 (.pointer (some ⟨w.heap.size, 0, none⟩)) (by kernel_rfl)) (X.ldN (Try.agg25 _) (Try.siz25 _) (X.c2 (hC.at 0 rfl) (hC.at 1 rfl)))) ?_
    clear F ac
    intro ac F
    refine X.pcall F (X.w0 rfl) rfl (X.enter (F := 81) rfl (X.kc (.func (.func 81) #[] #[]) rfl) (X.a2 (F.ev 10 (.agg #[.slice ta tn tc, .slice ca cn cc]) (by kernel_rfl)) (X.kc (.slice none 0 0) rfl)) (enters_of Try.func81 (by kernel_rfl) rfl _)) (states2_nil ta ca tn tc cn cc f w4 hok hf) ?_
    clear F ac
    rintro e w7 ⟨ra6, rn6, rc6, rfl, hR6, g⟩
    refine ⟨_, rfl, ?_⟩
    intro ac F
    replace G := G.trans g
    replace hC := hC.gr g
    replace hf := hf.gr g
    clear g
    refine X.pval F (X.w0 rfl) rfl (X.len1 Try.underlying22 rfl (F.ev 11 (.slice ra6 rn6 rc6) (by kernel_rfl))) ?_
    clear F ac
    intro ac F
    refine X.pval F (X.w0 rfl) rfl (X.assign rfl (F.ev 12 (.int .i64 rn6) (by kernel_rfl))) ?_
    clear F ac
    intro ac F
    refine X.pval F (X.w0 rfl) rfl (X.assign rfl (X.kc (.int .i64 0) rfl)) ?_
    clear F ac
    intro ac F
    refine wpList_nil ?_
    replace F : Fr ac 13 [(0, .agg #[.slice ta tn tc, .slice ca cn cc]), (1, .pointer (some ⟨w.heap.size, 0, none⟩)), (2, .int .i64 rn6), (3, .int .i64 0), (4, .int .i64 (chkE f)), (8, .bool false)] := F.sub _ (by kernel_rfl)
    refine X.thenN ?_
    refine wp_ret ?_
    have HV : cntV f = (rn6 : Int) := by unfold cntV; rw [if_pos (by assumption), hR6.len]
    have HE : chkE f = 0 := by assumption
    exact X.ret2 (v := .int .i64 rn6) (x := .int .i64 0) F rfl (by kernel_rfl) (by kernel_rfl) ⟨by rw [HV, HE], G⟩
  | true =>
    try rw [h5] at F
    have h5p : ¬ (chkE f : Int) = 0 := by simpa using h5
    have HV : cntV f = 0 := if_neg h5p
    refine wp_cond_true (F.ev 8 (.bool true) (by kernel_rfl)) ?_
    refine wp_seq ?_
    refine wp_region_lit ?_
    refine X.pval F (X.w0 rfl) rfl (X.move rfl (F.ev 4 (.int .i64 (chkE f)) (by kernel_rfl))) ?_
    clear F ac
    intro ac F
    refine X.pval F (X.w0 rfl) rfl (X.assign rfl (X.kc (.int .i64 0) rfl)) ?_
    clear F ac
    intro ac F
    refine X.pval F (X.w0 rfl) rfl (X.assign rfl (F.ev 9 (.int .i64 (chkE f)) (by kernel_rfl))) ?_
    clear F ac
    intro ac F
    refine wpList_nil ?_
    replace F : Fr ac 13 [(0, .agg #[.slice ta tn tc, .slice ca cn cc]), (1, .pointer (some ⟨w.heap.size, 0, none⟩)), (2, .int .i64 0), (3, .int .i64 (chkE f)), (4, .int .i64 (chkE f)), (8, .bool true)] := F.sub _ (by kernel_rfl)
    refine X.thenN ?_
    refine wp_ret ?_
    refine X.thenR ?_
    exact X.ret2 (v := .int .i64 0) (x := .int .i64 (chkE f)) F rfl (by kernel_rfl) (by kernel_rfl) ⟨by rw [HV], G⟩
end
section
open Go.RowKit

theorem cmpI_self (x : Int) : cmpI x x = 0 := by simp [cmpI]
theorem cmpL_lt : ∀ (p xs ys : List Int) (x y : Int), y < x → cmpL (p ++ x :: xs) (p ++ y :: ys) = 1 := by
  intro p
  induction p with
  | nil =>
    intro xs ys x y h
    have h2 : ¬ x < y := by omega
    simp [cmpL, cmpI, h, h2]
  | cons z p ih => intro xs ys x y h; simp only [List.cons_append, cmpL, cmpI_self, if_pos]; exact ih xs ys x y h
theorem cmpL_self : ∀ xs : List Int, cmpL xs xs = 0 := by
  intro xs
  induction xs with
  | nil => rfl
  | cons x xs ih => simp [cmpL, cmpI_self, ih]
theorem enumR_pre {f : Fl} : ∀ (k : Nat) (pre x : List Int), x ∈ enumR f k pre → ∃ t, x = pre ++ t := by
  intro k
  induction k with
  | zero =>
    intro pre x hx
    simp only [enumR] at hx
    split at hx
    · simp at hx; exact ⟨[], by simp [hx]⟩
    · simp at hx
  | succ k ih =>
    intro pre x hx
    simp only [enumR, List.mem_flatMap, List.mem_range] at hx
    obtain ⟨i, _, hi⟩ := hx
    obtain ⟨t, rfl⟩ := ih _ _ hi
    exact ⟨(i : Int) :: t, by simp⟩
/-- states in ascending order -/
def Asc (L : List (List Int)) : Prop := L.Pairwise fun a b => cmpL b a = 1
theorem enumR_asc {f : Fl} : ∀ (k : Nat) (pre : List Int), Asc (enumR f k pre) := by
  intro k
  induction k with
  | zero => intro pre; unfold Asc; simp only [enumR]; split <;> simp
  | succ k ih =>
    intro pre
    unfold Asc
    simp only [enumR]
    rw [List.pairwise_flatMap]
    refine ⟨fun i _ => ih _, List.Pairwise.imp ?_ List.pairwise_lt_range⟩
    intro i j hij x hx y hy
    obtain ⟨t, rfl⟩ := enumR_pre _ _ _ hx
    obtain ⟨u, rfl⟩ := enumR_pre _ _ _ hy
    rw [List.append_assoc, List.append_assoc]
    exact cmpL_lt pre u t j i (by omega)
theorem allV_asc (f : Fl) : Asc (allV f) := enumR_asc _ _
theorem allV_enum (f : Fl) : allV f = enum f (zeros f) (newestV f) f.times.length [] := enumR_eq f _ _ (by simp)

/-- the reference's choice -/
def pick2 (b s : List Int) : List Int := if sumV b ≤ sumV s then s else b
def new2 (L : List (List Int)) : List Int := L.foldl pick2 (L[0]?.getD [])
def newE (f : Fl) : Int := if chkE f = 0 then (if (allV f).length = 0 then 3 else 0) else chkE f
def newW (f : Fl) : List Int := if chkE f = 0 then new2 (allV f) else []
/-- the program's choice -/
def pick1 : Option (List Int) → List Int → Option (List Int)
  | none, s => some s
  | some b, s => if 0 < orI (cmpI (sumV s) (sumV b)) (cmpL s b) then some s else some b
def new1 (L : List (List Int)) : Option (List Int) := L.foldl pick1 none
theorem new1_snoc (L : List (List Int)) (x : List Int) : new1 (L ++ [x]) = pick1 (new1 L) x := by unfold new1; rw [List.foldl_append]; rfl

theorem pick_or {x y c : Int} (hc : c = 1) : (0 < orI (cmpI x y) c) ↔ y ≤ x := by
  subst hc
  unfold orI cmpI
  split <;> split <;> (try split at *) <;> omega
theorem pick_some : ∀ (L : List (List Int)) (b : List Int), (∀ x ∈ L, cmpL x b = 1) → Asc L → L.foldl pick1 (some b) = some (L.foldl pick2 b) := by
  intro L
  induction L with
  | nil => intro b _ _; rfl
  | cons x L ih =>
    intro b hb ha
    have hx := hb x (by simp)
    have ha' := List.pairwise_cons.1 ha
    simp only [List.foldl_cons, pick1, pick2]
    by_cases h : sumV b ≤ sumV x
    · rw [if_pos ((pick_or hx).2 h), if_pos h]; exact ih x ha'.1 ha'.2
    · rw [if_neg (fun h2 => h ((pick_or hx).1 h2)), if_neg h]; exact ih b (fun y hy => hb y (by simp [hy])) ha'.2
theorem new_same {L : List (List Int)} (ha : Asc L) : new1 L = if L.length = 0 then none else some (new2 L) := by
  cases L with
  | nil => rfl
  | cons x L =>
    have ha' := List.pairwise_cons.1 ha
    have h0 : ¬ (x :: L).length = 0 := by simp
    rw [if_neg h0]
    show L.foldl pick1 (some x) = _
    rw [pick_some L x ha'.1 ha'.2]
    simp [new2, pick2]
end
section
open Go.RowKit

theorem allV_enum0 {f : Fl} {n : Nat} (hl : f.times.length = n) : allV f = enum f (zeros f) (newestV f) n [] := by rw [allV_enum, hl]
theorem Try.new3 (w : World) : (Instr.alloc 3 true (.tuple #[])).run Try.prog w = .ok (.pointer (some ⟨w.heap.size, 0, none⟩)) (w.alloc (.cells #[.int .i64 0] 3)) := by kernel_rfl
theorem Try.new26 (w : World) : (Instr.alloc 26 true (.tuple #[])).run Try.prog w = .ok (.pointer (some ⟨w.heap.size, 0, none⟩)) (w.alloc (.cells #[.slice none 0 0] 26)) := by kernel_rfl

set_option maxRecDepth 100000 in
set_option maxHeartbeats 400000 in
theorem count_any (ta ca : Option Addr) (tn tc cn cc : Nat) (f : Fl) (w : World) (hf : FlAt w ta tn ca cn f) :
    Calls Try.prog 40 #[.agg #[.slice ta tn tc, .slice ca cn cc]] w fun e w' => e = .returned (.tuple #[.int .i64 (cntV f), .int .i64 (chkE f)]) ∧ Gr w w' := by
  have hf0 := hf
  have hl : f.times.length = tn := hf.t.len
  have G := Gr.refl w
  refine Y.calls 20 Try.func40 rfl rfl ?_
  intro ac F0
  have F : Fr ac 20 [(0, .agg #[.slice ta tn tc, .slice ca cn cc])] := F0.sub _ (by kernel_rfl)
  clear F0
  refine Y.seq ?_
  refine Y.lit (by kernel_rfl) ?_
  refine Y.pval F (X.w0 rfl) rfl (X.box rfl (F.ev 0 (.agg #[.slice ta tn tc, .slice ca cn cc]) (by kernel_rfl)) X.bx) ?_
  clear F ac
  intro ac F
  have g := Gr.alloc w (.cells #[.slice ta tn tc, .slice ca cn cc] 25)
  have hb := heap_alloc_new w (.cells #[.slice ta tn tc, .slice ca cn cc] 25)
  have hbl : w.heap.size < (w.alloc (.cells #[.slice ta tn tc, .slice ca cn cc] 25)).heap.size := by simp
  have hC2 : RCells (w.alloc (.cells #[.slice ta tn tc, .slice ca cn cc] 25)) [(⟨w.heap.size, 0, none⟩, .slice ta tn tc), (⟨w.heap.size, 1, none⟩, .slice ca cn cc)] := (RCells.nil w).box (b := w.heap.size) #[.slice ta tn tc, .slice ca cn cc] 25 rfl
  generalize w.alloc (.cells #[.slice ta tn tc, .slice ca cn cc] 25) = w3 at *
  replace G := G.trans g
  have hC := hC2
  clear hC2
  replace hf := hf.gr g
  clear g hb hbl
  refine Y.pval F (X.w0 rfl) rfl (Y.al rfl (Try.new3 _)) ?_
  clear F ac
  intro ac F
  have hge := G.size
  have g := Gr.alloc w3 (.cells #[.int .i64 0] 3)
  have hb := heap_alloc_new w3 (.cells #[.int .i64 0] 3)
  have hbl : w3.heap.size < (w3.alloc (.cells #[.int .i64 0] 3)).heap.size := by simp
  have hC2 : RCells (w3.alloc (.cells #[.int .i64 0] 3)) [(⟨w.heap.size, 0, none⟩, .slice ta tn tc), (⟨w.heap.size, 1, none⟩, .slice ca cn cc), (⟨w3.heap.size, 0, none⟩, .int .i64 0)] := hC.box (b := w3.heap.size) #[.int .i64 0] 3 rfl
  generalize w3.alloc (.cells #[.int .i64 0] 3) = w4 at *
  replace G := G.trans g
  replace hC := hC2
  clear hC2
  replace hf := hf.gr g
  have hz := Y.Fz.new hb
  clear g hb hbl
  refine Y.pval F (X.w0 rfl) rfl (X.assign rfl (X.kc (.int .i64 0) rfl)) ?_
  clear F ac
  intro ac F
  refine Y.nil ?_
  replace F : Fr ac 20 [(0, .agg #[.slice ta tn tc, .slice ca cn cc]), (1, .pointer (some ⟨w.heap.size, 0, none⟩)), (2, .pointer (some ⟨w3.heap.size, 0, none⟩)), (3, .int .i64 0)] := F.sub _ (by kernel_rfl)
  refine X.thenN ?_
  refine Y.seq ?_
  refine Y.seq ?_
  refine Y.lit (by kernel_rfl) ?_
  refine Y.pval F (X.w0 rfl) rfl (X.load rfl (F.ev 1 (.pointer (some ⟨w.heap.size, 0, none⟩)) (by kernel_rfl)) (X.ldN (Try.agg25 _) (Try.siz25 _) (X.c2 (hC.at 0 rfl) (hC.at 1 rfl)))) ?_
  clear F ac
  intro ac F
  refine Y.pcall F (X.w0 rfl) rfl (X.enter (F := 36) rfl (X.kc (.func (.func 36) #[] #[]) rfl) (X.a1 (F.ev 5 (.agg #[.slice ta tn tc, .slice ca cn cc]) (by kernel_rfl))) (enters_of Try.func36 (by kernel_rfl) rfl _)) (check_any ta ca tn tc cn cc f w4 hf) ?_
  clear F ac
  rintro e w6 ⟨rfl, g⟩
  refine ⟨_, rfl, ?_⟩
  intro ac F
  replace G := G.trans g
  replace hC := hC.gr g
  replace hf := hf.gr g
  replace hz := hz.gr g
  clear g
  refine Y.pval F (X.w0 rfl) rfl (X.assign rfl (F.ev 6 (.int .i64 (chkE f)) (by kernel_rfl))) ?_
  clear F ac
  intro ac F
  refine Y.nil ?_
  replace F : Fr ac 20 [(0, .agg #[.slice ta tn tc, .slice ca cn cc]), (1, .pointer (some ⟨w.heap.size, 0, none⟩)), (2, .pointer (some ⟨w3.heap.size, 0, none⟩)), (3, .int .i64 0), (4, .int .i64 (chkE f))] := F.sub _ (by kernel_rfl)
  refine X.thenN ?_
  refine Y.seq ?_
  refine Y.lit (by kernel_rfl) ?_
  refine Y.pval F (X.w0 rfl) rfl (X.move rfl (F.ev 4 (.int .i64 (chkE f)) (by kernel_rfl))) ?_
  clear F ac
  intro ac F
  refine Y.pval F (X.w0 rfl) rfl (X.binop rfl (F.ev 7 (.int .i64 (chkE f)) (by kernel_rfl)) (X.kc (.int .i64 0) rfl) (X.neqI Try.underlying31 rfl)) ?_
  clear F ac
  intro ac F
  refine Y.nil ?_
  replace F : Fr ac 20 [(0, .agg #[.slice ta tn tc, .slice ca cn cc]), (1, .pointer (some ⟨w.heap.size, 0, none⟩)), (2, .pointer (some ⟨w3.heap.size, 0, none⟩)), (3, .int .i64 0), (4, .int .i64 (chkE f)), (8, .bool ((chkE f : Int) != 0))] := F.sub _ (by kernel_rfl)
  refine X.thenN ?_
  cases h7 : ((chkE f : Int) != 0) with
  | false =>
    try rw [h7] at F
    have h7p : (chkE f : Int) = 0 := by simpa using h7
    have hok : FlOk f := chkB_ok (chkE_zero h7p)
    have HE : chkE f = 0 := h7p
    refine Y.condF (F.ev 8 (.bool false) (by kernel_rfl)) ?_
    refine Y.skip ?_
    refine X.thenN ?_
    refine Y.seq ?_
    refine Y.seq ?_
    have hbB := hz.1
    refine Y.region F [some (.agg #[.slice ta tn tc, .slice ca cn cc]), some (.agg #[.slice ta tn tc, .slice ca cn cc]), none, some (.agg #[.slice ta tn tc, .slice ca cn cc]), none, none] [(2, Y.MP.intsF w6.heap.size tn (zeros f)), (4, Y.MP.intsF w6.heap.size tn (newestV f)), (5, Y.MP.iter w6.heap.size ta tn tc ca cn cc tn (zeros f) (newestV f) (Y.New w6.heap.size) (Y.New w6.heap.size))] rfl ⟨by kernel_rfl, of_decide_eq_true (by kernel_rfl), by kernel_rfl, by kernel_rfl, by kernel_rfl⟩ ⟨?_, ?_, ?_, ?_, ?_, ?_, trivial⟩ ?_
    · intro ac done u W Sx hR
      have g : Gr w6 W := hR.1
      exact X.val (X.w0 rfl) rfl (X.load rfl (Sx.ev 1 (.pointer (some ⟨w.heap.size, 0, none⟩)) (by kernel_rfl)) (X.ldN (Try.agg25 _) (Try.siz25 _) (X.c2 ((hC.gr g).at 0 rfl) ((hC.gr g).at 1 rfl)))) (hR.step (Gr.refl _) rfl)
    · intro ac done u W Sx hR
      have g : Gr w6 W := hR.1
      exact X.val (X.w0 rfl) rfl (X.load rfl (Sx.ev 1 (.pointer (some ⟨w.heap.size, 0, none⟩)) (by kernel_rfl)) (X.ldN (Try.agg25 _) (Try.siz25 _) (X.c2 ((hC.gr g).at 0 rfl) ((hC.gr g).at 1 rfl)))) (hR.step (Gr.refl _) rfl)
    · intro ac done u W Sx hR
      have g : Gr w6 W := hR.1
      refine X.call (X.w0 rfl) (X.enter (F := 79) rfl (X.kc (.func (.func 79) #[] #[]) rfl) (X.a1 (Sx.ev 11 (.agg #[.slice ta tn tc, .slice ca cn cc]) (by kernel_rfl))) (enters_of Try.func79 (by kernel_rfl) rfl _)) (oldest_any w6.heap.size ta ca tn tc cn cc f W hok (hf.gr g) g.size) ?_
      rintro e W2 ⟨v, rfl, hp, g2⟩
      exact ⟨_, rfl, X.un rfl, hR.new (q := Y.MP.intsF w6.heap.size tn (zeros f)) g2 rfl hp⟩
    · intro ac done u W Sx hR
      have g : Gr w6 W := hR.1
      exact X.val (X.w0 rfl) rfl (X.load rfl (Sx.ev 1 (.pointer (some ⟨w.heap.size, 0, none⟩)) (by kernel_rfl)) (X.ldN (Try.agg25 _) (Try.siz25 _) (X.c2 ((hC.gr g).at 0 rfl) ((hC.gr g).at 1 rfl)))) (hR.step (Gr.refl _) rfl)
    · intro ac done u W Sx hR
      have g : Gr w6 W := hR.1
      refine X.call (X.w0 rfl) (X.enter (F := 80) rfl (X.kc (.func (.func 80) #[] #[]) rfl) (X.a1 (Sx.ev 13 (.agg #[.slice ta tn tc, .slice ca cn cc]) (by kernel_rfl))) (enters_of Try.func80 (by kernel_rfl) rfl _)) (newest_any w6.heap.size ta ca tn tc cn cc f W hok (hf.gr g) g.size) ?_
      rintro e W2 ⟨v, rfl, hp, g2⟩
      exact ⟨_, rfl, X.un rfl, hR.new (q := Y.MP.intsF w6.heap.size tn (newestV f)) g2 rfl hp⟩
    · intro ac done u W Sx hR
      have g : Gr w6 W := hR.1
      obtain ⟨ra8, rc8, e2, hI8, hN8⟩ := hR.get (i := 2) (Y.MP.intsF w6.heap.size tn (zeros f)) rfl (Sx.an 2 (by kernel_rfl))
      obtain ⟨ra9, rc9, e4, hI9, hN9⟩ := hR.get (i := 4) (Y.MP.intsF w6.heap.size tn (newestV f)) rfl (Sx.an 4 (by kernel_rfl))
      refine X.call (X.w0 rfl) (X.enter (F := 59) rfl (X.kc (.func (.func 59) #[] #[]) rfl) (X.a3 (Sx.ev 10 (.agg #[.slice ta tn tc, .slice ca cn cc]) (by kernel_rfl)) ((Sx.own 2 12 rfl).trans e2) ((Sx.own 4 14 rfl).trans e4)) (enters_of Try.func59 (by kernel_rfl) rfl _)) (Y.states_iter w6.heap.size (Y.New w6.heap.size) (Y.New w6.heap.size) ta ca ra8 ra9 tn tc cn cc tn rc8 rc9 (zeros f) (newestV f) W hI8 hI9 hN8 hN9 g.size) ?_
      rintro e W2 ⟨v, rfl, hp, g2⟩
      exact ⟨_, rfl, X.un rfl, hR.new (q := Y.MP.iter w6.heap.size ta tn tc ca cn cc tn (zeros f) (newestV f) (Y.New w6.heap.size) (Y.New w6.heap.size)) g2 rfl hp⟩
    intro ac u w11 hs hd hl ho hR
    have g : Gr w6 w11 := hR.1
    obtain ⟨ra8, rc8, e2, hI8, hN8⟩ := hR.get (i := 2) (Y.MP.intsF w6.heap.size tn (zeros f)) rfl rfl
    obtain ⟨ra9, rc9, e4, hI9, hN9⟩ := hR.get (i := 4) (Y.MP.intsF w6.heap.size tn (newestV f)) rfl rfl
    obtain ⟨ir10, il10, it10, ia10, ic10, ja10, jc10, e5, i010, i110, i210, i310, il410, il510, iN10, jN10, ib110, ib210, ib310⟩ := hR.get (i := 5) (Y.MP.iter w6.heap.size ta tn tc ca cn cc tn (zeros f) (newestV f) (Y.New w6.heap.size) (Y.New w6.heap.size)) rfl rfl
    replace F : Fr ac 20 [(0, .agg #[.slice ta tn tc, .slice ca cn cc]), (1, .pointer (some ⟨w.heap.size, 0, none⟩)), (2, .pointer (some ⟨w3.heap.size, 0, none⟩)), (3, .int .i64 0), (4, .int .i64 (chkE f)), (8, .bool false)] := X.fr hs hd hl _ (by kernel_rfl)
    replace F := F.add (ho 5 15 rfl) e5
    replace F : Fr ac 20 [(0, .agg #[.slice ta tn tc, .slice ca cn cc]), (1, .pointer (some ⟨w.heap.size, 0, none⟩)), (2, .pointer (some ⟨w3.heap.size, 0, none⟩)), (3, .int .i64 0), (4, .int .i64 (chkE f)), (8, .bool false), (15, .func (.func 90) #[] #[.pointer (some ⟨ir10, 0, none⟩), .pointer (some ⟨il10, 0, none⟩), .pointer (some ⟨it10, 0, none⟩)])] := F.sub _ (by kernel_rfl)
    clear e2 e4 e5
    clear hs hd hl ho hR
    replace G := G.trans g
    replace hC := hC.gr g
    replace hf := hf.gr g
    replace hz := hz.gr g
    clear g
    refine X.thenN ?_
    refine Y.block ?_
    have hbt : w3.heap.size < w11.heap.size := lt_cell (hC.at 2 rfl)
    have hSB := Y.sbase_all hok hf0 G (bn := w3.heap.size) hge hbB hl il410 iN10 il510 jN10
    have hRC : Y.RC w11 w3.heap.size (.int .i64 0) w11 := ⟨Only.refl _ _, hbt, hC.at 2 rfl, hz.2⟩
    replace F : Fr ac 20 [(0, .agg #[.slice ta tn tc, .slice ca cn cc]), (1, .pointer (some ⟨w.heap.size, 0, none⟩)), (2, .pointer (some ⟨w3.heap.size, 0, none⟩)), (3, .int .i64 0), (4, .int .i64 (chkE f)), (8, .bool false), (15, .func (.func 90) #[] #[.pointer (some ⟨ir10, 0, none⟩), .pointer (some ⟨il10, 0, none⟩), .pointer (some ⟨it10, 0, none⟩)])] := F.sub _ (by kernel_rfl)
    refine Y.range0 (wB := w11) (S := fun b => b = w3.heap.size ∨ w11.heap.size ≤ b) (Y := fun b => b = w3.heap.size) (f := f) (lo := zeros f) (hi := newestV f) F (by decide) (F.ev 15 _ (by kernel_rfl)) hSB (Only.refl _ _) (fun b h => .inl h) (fun b (h : b = w3.heap.size) => by omega) i210 i010 i110 i310 (by omega) (by omega) (by omega) (fun done W => Y.RC w11 w3.heap.size (.int .i64 (done.length : Nat)) W) hRC (fun xs W W2 h g => h.keep (Nat.le_refl _) g) ?_ ?_
    · have GA := G
      clear F ac G hC hRC
      intro pre x ad c w12 ac hI _ hx hax _ hmem hsx hwx F
      obtain ⟨rest, hall⟩ := hmem
      have hlen := allV_len hok
      rw [allV_enum0 hl, hall, List.length_append, List.length_cons] at hlen
      have G := Gr.refl w12
      replace F : Fr ac 20 [(0, .agg #[.slice ta tn tc, .slice ca cn cc]), (1, .pointer (some ⟨w.heap.size, 0, none⟩)), (2, .pointer (some ⟨w3.heap.size, 0, none⟩)), (3, .int .i64 0), (4, .int .i64 (chkE f)), (8, .bool false), (15, .func (.func 90) #[] #[.pointer (some ⟨ir10, 0, none⟩), .pointer (some ⟨il10, 0, none⟩), .pointer (some ⟨it10, 0, none⟩)])] := F.sub _ (by kernel_rfl)
      have hC : RCells w12 [(⟨w3.heap.size, 0, none⟩, .int .i64 (pre.length : Nat))] := RCells.cons hI.c (RCells.nil _)
      refine Y.block ?_
      refine Y.lit (by kernel_rfl) ?_
      refine Y.pval F (X.w0 rfl) rfl (X.load rfl (F.ev 2 (.pointer (some ⟨w3.heap.size, 0, none⟩)) (by kernel_rfl)) (X.ld1 (Try.agg3 _) (hC.at 0 rfl))) ?_
      clear F ac
      intro ac F
      refine Y.pval F (X.w0 rfl) rfl (X.binop rfl (F.ev 17 (.int .i64 pre.length) (by kernel_rfl)) (X.kc (.int .i64 1) rfl) (X.addI Try.underlying3 rfl (by omega) (by omega))) ?_
      clear F ac
      intro ac F
      refine Y.punit F (X.w0 rfl) rfl (X.store rfl (F.ev 2 (.pointer (some ⟨w3.heap.size, 0, none⟩)) (by kernel_rfl)) (F.ev 18 (.int .i64 ((pre.length : Int) + 1)) (by kernel_rfl)) (Y.st1 (Try.siz3 _) rfl rfl (hI.gr G).c (hI.gr G).fz)) ?_
      clear F ac
      intro ac F
      refine Y.nil ?_
      replace F : Fr ac 20 [(0, .agg #[.slice ta tn tc, .slice ca cn cc]), (1, .pointer (some ⟨w.heap.size, 0, none⟩)), (2, .pointer (some ⟨w3.heap.size, 0, none⟩)), (3, .int .i64 0), (4, .int .i64 (chkE f)), (8, .bool false), (15, .func (.func 90) #[] #[.pointer (some ⟨ir10, 0, none⟩), .pointer (some ⟨il10, 0, none⟩), .pointer (some ⟨it10, 0, none⟩)])] := F.sub _ (by kernel_rfl)
      refine X.blockN ?_
      exact ⟨Y.RC.setOnly (hI.gr G) G _, by have := (hI.gr G).set (.int .i64 ((pre.length : Int) + 1)); simpa using this⟩
    have GA := G
    clear F ac
    intro w13 ac hI hk F
    rw [← allV_enum0 hl] at hI
    have hM : Y.RM w11 _ _ w13 := ⟨hI, hk⟩
    clear hI hk
    have hI := hM
    clear hM
    have hC : RCells w13 [(⟨w3.heap.size, 0, none⟩, .int .i64 ((allV f).length : Nat))] := RCells.cons hI.rc.c (RCells.nil _)
    refine X.blockN ?_
    refine X.thenN ?_
    refine Y.seq ?_
    refine Y.lit (by kernel_rfl) ?_
    refine Y.pval F (X.w0 rfl) rfl (X.load rfl (F.ev 2 (.pointer (some ⟨w3.heap.size, 0, none⟩)) (by kernel_rfl)) (X.ld1 (Try.agg3 _) (hC.at 0 rfl))) ?_
    clear F ac
    intro ac F
    refine Y.punit F (X.w0 rfl) rfl (X.store rfl (F.ev 2 (.pointer (some ⟨w3.heap.size, 0, none⟩)) (by kernel_rfl)) (F.ev 19 (.int .i64 ((allV f).length : Nat)) (by kernel_rfl)) (Y.st1 (Try.siz3 _) rfl rfl hI.rc.c hI.rc.fz)) ?_
    clear F ac
    intro ac F
    replace hI := hI.set (.int .i64 ((allV f).length : Nat))
    generalize w13.setCell _ _ = w99 at *
    refine Y.pval F (X.w0 rfl) rfl (X.assign rfl (X.kc (.int .i64 0) rfl)) ?_
    clear F ac
    intro ac F
    refine Y.nil ?_
    replace F : Fr ac 20 [(0, .agg #[.slice ta tn tc, .slice ca cn cc]), (1, .pointer (some ⟨w.heap.size, 0, none⟩)), (2, .pointer (some ⟨w3.heap.size, 0, none⟩)), (3, .int .i64 0), (4, .int .i64 (chkE f)), (8, .bool false), (15, .func (.func 90) #[] #[.pointer (some ⟨ir10, 0, none⟩), .pointer (some ⟨il10, 0, none⟩), .pointer (some ⟨it10, 0, none⟩)])] [{ target := .collected w11.heap.size, args := #[] }] := F.sub _ (by kernel_rfl)
    refine X.thenN ?_
    refine Y.ret ?_
    have HV : cntV f = ((allV f).length : Int) := by unfold cntV; rw [if_pos HE]
    exact hI.ret F rfl (fun _ => Try.agg3 _) (by kernel_rfl) (by kernel_rfl) (fun W2 h2 _ => ⟨by rw [HV, HE], h2.grow GA hge⟩)
  | true =>
    try rw [h7] at F
    have h7p : ¬ (chkE f : Int) = 0 := by simpa using h7
    have HV : cntV f = 0 := if_neg h7p
    refine Y.condT (F.ev 8 (.bool true) (by kernel_rfl)) ?_
    refine Y.seq ?_
    refine Y.lit (by kernel_rfl) ?_
    refine Y.pval F (X.w0 rfl) rfl (X.move rfl (F.ev 4 (.int .i64 (chkE f)) (by kernel_rfl))) ?_
    clear F ac
    intro ac F
    refine Y.punit F (X.w0 rfl) rfl (X.store rfl (F.ev 2 (.pointer (some ⟨w3.heap.size, 0, none⟩)) (by kernel_rfl)) (X.kc (.int .i64 0) rfl) (Y.st1 (Try.siz3 _) rfl rfl (hC.at 2 rfl) hz.2)) ?_
    clear F ac
    intro ac F
    replace G := G.setCell (p := ⟨w3.heap.size, 0, none⟩) hge (.int .i64 0)
    have hcv : (w6.setCell ⟨w3.heap.size, 0, none⟩ (.int .i64 0)).cell? ⟨w3.heap.size, 0, none⟩ = some (.int .i64 0) := by have := hC.at 2 rfl; simp [go_sem, this]
    clear hC hz
    generalize w6.setCell ⟨w3.heap.size, 0, none⟩ (.int .i64 0) = w14 at *
    refine Y.pval F (X.w0 rfl) rfl (X.assign rfl (F.ev 9 (.int .i64 (chkE f)) (by kernel_rfl))) ?_
    clear F ac
    intro ac F
    refine Y.nil ?_
    replace F : Fr ac 20 [(0, .agg #[.slice ta tn tc, .slice ca cn cc]), (1, .pointer (some ⟨w.heap.size, 0, none⟩)), (2, .pointer (some ⟨w3.heap.size, 0, none⟩)), (3, .int .i64 (chkE f)), (4, .int .i64 (chkE f)), (8, .bool true)] := F.sub _ (by kernel_rfl)
    refine X.thenN ?_
    refine Y.ret ?_
    refine X.thenR ?_
    exact Y.ret0 F (Y.rc2 F rfl (Try.agg3 _) (by kernel_rfl) hcv (by kernel_rfl)) ⟨by rw [HV], G⟩
end
section
theorem cmpI_anti (x y : Int) : cmpI y x = - cmpI x y := by
  unfold cmpI
  split <;> split <;> (try split) <;> omega
theorem cmpL_anti : ∀ (x y : List Int), cmpL y x = - cmpL x y := by
  intro x
  induction x with
  | nil => intro y; cases y <;> rfl
  | cons a x ih =>
    intro y
    cases y with
    | nil => rfl
    | cons b y =>
      simp only [cmpL]
      rw [cmpI_anti a b]
      by_cases h : cmpI a b = 0
      · have h2 : - cmpI a b = 0 := by omega
        rw [if_pos h, if_pos h2]; exact ih y
      · have h2 : ¬ - cmpI a b = 0 := by omega
        rw [if_neg h, if_neg h2]
theorem cmpL_eq : ∀ {x y : List Int}, cmpL x y = 0 → x = y := by
  intro x
  induction x with
  | nil => intro y h; cases y with
    | nil => rfl
    | cons b y => simp [cmpL] at h
  | cons a x ih =>
    intro y h
    cases y with
    | nil => simp [cmpL] at h
    | cons b y =>
      simp only [cmpL] at h
      by_cases h0 : cmpI a b = 0
      · rw [if_pos h0] at h
        have hab : a = b := by
          unfold cmpI at h0
          split at h0
          · omega
          · split at h0 <;> omega
        rw [hab, ih h]
      · rw [if_neg h0] at h; exact absurd h h0
/-- two ascending lists of the same states are equal -/
theorem asc_ext : ∀ {A B : List (List Int)}, Asc A → Asc B → (∀ x, x ∈ A ↔ x ∈ B) → A = B := by
  intro A
  induction A with
  | nil =>
    intro B _ _ h
    cases B with
    | nil => rfl
    | cons b B => have := (h b).2 (by simp); simp at this
  | cons a A ih =>
    intro B hA hB h
    cases B with
    | nil => have := (h a).1 (by simp); simp at this
    | cons b B =>
      have hA' := List.pairwise_cons.1 hA
      have hB' := List.pairwise_cons.1 hB
      have hab : a = b := by
        have h1 := (h a).1 (by simp)
        have h2 := (h b).2 (by simp)
        rcases List.mem_cons.1 h1 with e | h1
        · exact e
        · rcases List.mem_cons.1 h2 with e | h2
          · exact e.symm
          · have k1 := hB'.1 a h1
            have k2 := hA'.1 b h2
            have := cmpL_anti a b
            omega
      subst hab
      rw [ih hA'.2 hB'.2 (fun x => ?_)]
      have hx := h x
      constructor
      · intro hm
        rcases List.mem_cons.1 (hx.1 (by simp [hm])) with e | h2
        · subst e; have := hA'.1 x hm; rw [cmpL_self] at this; omega
        · exact h2
      · intro hm
        rcases List.mem_cons.1 (hx.2 (by simp [hm])) with e | h2
        · subst e; have := hB'.1 x hm; rw [cmpL_self] at this; omega
        · exact h2

theorem enum_pre {f : Fl} {lo hi : List Int} : ∀ (k : Nat) (pre x : List Int), x ∈ enum f lo hi k pre → ∃ t, x = pre ++ t := by
  intro k
  induction k with
  | zero =>
    intro pre x hx
    simp only [enum] at hx
    split at hx
    · simp at hx; exact ⟨[], by simp [hx]⟩
    · simp at hx
  | succ k ih =>
    intro pre x hx
    simp only [enum, List.mem_flatMap, List.mem_range] at hx
    obtain ⟨i, _, hi⟩ := hx
    obtain ⟨t, rfl⟩ := ih _ _ hi
    exact ⟨(lo[pre.length]?.getD 0 + (i : Int)) :: t, by simp⟩
theorem enum_asc {f : Fl} {lo hi : List Int} : ∀ (k : Nat) (pre : List Int), Asc (enum f lo hi k pre) := by
  intro k
  induction k with
  | zero => intro pre; unfold Asc; simp only [enum]; split <;> simp
  | succ k ih =>
    intro pre
    unfold Asc
    simp only [enum]
    rw [List.pairwise_flatMap]
    refine ⟨fun i _ => ih _, List.Pairwise.imp ?_ List.pairwise_lt_range⟩
    intro i j hij x hx y hy
    obtain ⟨t, rfl⟩ := enum_pre _ _ _ hx
    obtain ⟨u, rfl⟩ := enum_pre _ _ _ hy
    rw [List.append_assoc, List.append_assoc]
    exact cmpL_lt pre u t _ _ (by omega)

theorem allV_ok {f : Fl} {x : List Int} (h : x ∈ allV f) : StOk f x ∧ worksB f x = true :=
  enumR_ok f.times.length [] (by simp) (fun c hc => by simp at hc) x h
theorem allV_has {f : Fl} {x : List Int} (hx : StOk f x) (hw : worksB f x = true) : x ∈ allV f := by
  rw [allV_enum]
  have hz : (zeros f).length = f.times.length := by simp [zeros]
  have hb : Btw (zeros f) (newestV f) x := ⟨by rw [hx.len, hz], fun c hc => by
    rw [hz] at hc
    have := (hx.ver c hc).1
    simpa [zeros, hc] using this, fun c hc => by
    rw [hz] at hc
    have := (hx.ver c hc).2
    simpa [newestV, hc] using this⟩
  have := enum_has hw hb
  rw [hz] at this; exact this
/-- the states of a box are those of all that lie in it -/
theorem enum_filter {f : Fl} {lo hi : List Int} (hlo : StOk f lo) (hhi : StOk f hi) : enum f lo hi lo.length [] = (allV f).filter (fun x => aboveV x lo && aboveV hi x) := by
  refine asc_ext (enum_asc _ _) ((allV_asc f).filter _) (fun x => ?_)
  rw [List.mem_filter]
  have hl : lo.length = hi.length := by rw [hlo.len, hhi.len]
  constructor
  · intro h
    obtain ⟨hb, hw⟩ := enum_between h
    exact ⟨allV_has (hlo.btw hhi hb) hw, by rw [hb.above, hb.below hl]; rfl⟩
  · rintro ⟨h, hb⟩
    obtain ⟨hx, hw⟩ := allV_ok h
    simp only [Bool.and_eq_true] at hb
    exact enum_has hw ⟨by rw [hx.len, hlo.len], fun c hc => aboveV_le hb.1 c (by rw [hx.len, ← hlo.len]; exact hc), fun c hc => aboveV_le hb.2 c (by rw [← hl]; exact hc)⟩

/-- what is not in a list does not turn a fold -/
theorem foldl_filter {α β : Type} (g : β → α → β) (p : α → Bool) : ∀ (l : List α) (b : β), (∀ x ∈ l, p x = false → ∀ b, g b x = b) → (l.filter p).foldl g b = l.foldl g b := by
  intro l
  induction l with
  | nil => intro b _; rfl
  | cons x l ih =>
    intro b h
    cases hp : p x with
    | true => rw [List.filter_cons_of_pos hp, List.foldl_cons, List.foldl_cons, ih _ (fun y hy => h y (by simp [hy]))]
    | false => rw [List.filter_cons_of_neg (by simp [hp]), List.foldl_cons, h x (by simp) hp, ih _ (fun y hy => h y (by simp [hy]))]

/-- an ascending state lies behind -/
theorem above_cmp : ∀ {x s : List Int}, x.length = s.length → aboveV x s = true → x ≠ s → cmpL x s = 1 := by
  intro x
  induction x with
  | nil => intro s hl _ hne; cases s with
    | nil => exact absurd rfl hne
    | cons b s => simp at hl
  | cons a x ih =>
    intro s hl ha hne
    cases s with
    | nil => simp at hl
    | cons b s =>
      have hle := aboveV_le ha
      have h0 := hle 0 (by simp)
      simp at h0
      simp only [cmpL]
      by_cases hab : a = b
      · subst hab
        rw [cmpI_self, if_pos rfl]
        exact ih (by simpa using hl) (aboveV_true rfl (fun j hj => by have := hle (j + 1) (by simpa using hj); simpa using this)) (fun e => hne (by rw [e]))
      · have h1 : b < a := by omega
        have h2 : ¬ a < b := by omega
        simp [cmpI, h1, h2]

/-- a road: steps, time, the next state's place -/
structure Rd where
  steps : Int
  time : Int
  nxt : Int
def Rd.no : Rd := ⟨-1, 0, -1⟩
def Rd.fin : Rd := ⟨0, 0, -1⟩
def roadStep (T : List (List Int)) (bu : Int) (s : List Int) (b : Rd) (x : List Int) (r : Rd) (k : Nat) : Rd :=
  if stepV T s x < 0 ∨ bu < stepV T s x ∨ r.steps < 0 then b else
  if b.steps < 0 ∨ r.steps + 1 < b.steps ∨ (r.steps + 1 = b.steps ∧ r.time + stepV T s x < b.time) then ⟨r.steps + 1, r.time + stepV T s x, k⟩ else b
/-- the best road from s over the states that follow, of which the first has place k -/
def roadFold (T : List (List Int)) (bu : Int) (s : List Int) : Rd → List (List Int) → List Rd → Nat → Rd
  | b, x :: r, y :: t, k => roadFold T bu s (roadStep T bu s b x y k) r t (k + 1)
  | b, _, _, _ => b
/-- the roads of the states that are left, of which the first has place k -/
def roadsF (T : List (List Int)) (to : List Int) (bu : Int) : List (List Int) → Nat → List Rd
  | [], _ => []
  | s :: r, k => (if s = to then Rd.fin else roadFold T bu s Rd.no r (roadsF T to bu r (k + 1)) (k + 1)) :: roadsF T to bu r (k + 1)
theorem roadsF_len {T : List (List Int)} {to : List Int} {bu : Int} : ∀ (L : List (List Int)) (k : Nat), (roadsF T to bu L k).length = L.length := by
  intro L
  induction L with
  | nil => intro k; rfl
  | cons s r ih => intro k; simp [roadsF, ih]

/-- a road is a rest -/
structure RdOk (L : List (List Int)) (b : Rs) (m : Rd) : Prop where
  no : b.is = false → m = Rd.no
  yes : b.is = true → 0 ≤ m.steps ∧ m.steps = b.steps ∧ m.time = b.time
  nx : b.is = true → b.nxt ≠ [] → 0 ≤ m.nxt ∧ m.nxt.toNat < L.length ∧ L[m.nxt.toNat]?.getD [] = b.nxt
  nn : b.is = true → b.nxt = [] → m.nxt = -1
theorem RdOk.none (L : List (List Int)) : RdOk L Rs.no Rd.no := ⟨fun _ => rfl, fun h => by simp [Rs.no] at h, fun h => by simp [Rs.no] at h, fun h => by simp [Rs.no] at h⟩

theorem roadStep_ok {f : Fl} {L : List (List Int)} {bu : Int} {s x : List Int} {rec : List Int → Rs} {b : Rs} {m r : Rd} {k : Nat} (hok : FlOk f) (hs : StOk f s) (hx : StOk f x) (hne : x ≠ []) (hk : L[k]? = some x) (hb : RdOk L b m) (hr : RdOk L (rec x) r) :
    RdOk L (bestStep f.times bu s rec b x) (roadStep f.times bu s m x r k) := by
  cases hst : stepsB f.times s x bu with
  | false =>
    have := stepsB_false hok hs hx hst
    have h2 : stepV f.times s x < 0 ∨ bu < stepV f.times s x ∨ r.steps < 0 := by omega
    have e1 : bestStep f.times bu s rec b x = b := by simp [bestStep, hst]
    have e2 : roadStep f.times bu s m x r k = m := if_pos h2
    rw [e1, e2]; exact hb
  | true =>
    have h1 := stepsB_true2 hok hs hx hst
    have hdv := stepV_dur hok hs hx hst
    cases hri : (rec x).is with
    | false =>
      have hneg : r.steps < 0 := by rw [hr.no hri]; decide
      have e1 : bestStep f.times bu s rec b x = b := by simp [bestStep, hst, hri]
      have e2 : roadStep f.times bu s m x r k = m := if_pos (.inr (.inr hneg))
      rw [e1, e2]; exact hb
    | true =>
      obtain ⟨y1, y2, y3⟩ := hr.yes hri
      have h2 : ¬ (stepV f.times s x < 0 ∨ bu < stepV f.times s x ∨ r.steps < 0) := by omega
      have hnew : RdOk L ((rec x).via f.times s x) ⟨r.steps + 1, r.time + stepV f.times s x, k⟩ := by
        refine ⟨fun h => by simp [Rs.via] at h, fun _ => ⟨by show 0 ≤ r.steps + 1; omega, by simp only [Rs.via]; omega, by simp only [Rs.via]; rw [hdv]; omega⟩, fun _ _ => ⟨by show (0 : Int) ≤ (k : Int); omega, ?_, ?_⟩, fun _ h => absurd h hne⟩
        · show ((k : Int)).toNat < L.length
          rw [Int.toNat_natCast]; exact (List.getElem?_eq_some_iff.1 hk).1
        · show L[((k : Int)).toNat]?.getD [] = x
          rw [Int.toNat_natCast, hk]; rfl
      have e2 : ∀ (h : m.steps < 0 ∨ r.steps + 1 < m.steps ∨ (r.steps + 1 = m.steps ∧ r.time + stepV f.times s x < m.time)), roadStep f.times bu s m x r k = ⟨r.steps + 1, r.time + stepV f.times s x, k⟩ := fun h => (if_neg h2).trans (if_pos h)
      have e3 : ∀ (h : ¬ (m.steps < 0 ∨ r.steps + 1 < m.steps ∨ (r.steps + 1 = m.steps ∧ r.time + stepV f.times s x < m.time))), roadStep f.times bu s m x r k = m := fun h => (if_neg h2).trans (if_neg h)
      cases hbi : b.is with
      | false =>
        have hm := hb.no hbi
        have e1 : bestStep f.times bu s rec b x = (rec x).via f.times s x := by simp [bestStep, hst, hri, hbi]
        rw [e1, e2 (by rw [hm]; exact .inl (by decide))]
        exact hnew
      | true =>
        obtain ⟨z1, z2, z3⟩ := hb.yes hbi
        cases hl : rsLess ((rec x).via f.times s x) b with
        | true =>
          have := (rsLess_iff _ _).1 hl
          simp only [Rs.via] at this
          have e1 : bestStep f.times bu s rec b x = (rec x).via f.times s x := by simp [bestStep, hst, hri, hbi, hl]
          rw [e1, e2 (by rw [hdv]; omega)]
          exact hnew
        | false =>
          have : ¬ (((rec x).via f.times s x).steps < b.steps ∨ (((rec x).via f.times s x).steps = b.steps ∧ ((rec x).via f.times s x).time < b.time)) := fun h => by rw [(rsLess_iff _ _).2 h] at hl; cases hl
          simp only [Rs.via] at this
          have e1 : bestStep f.times bu s rec b x = b := by simp [bestStep, hst, hri, hbi, hl]
          rw [e1, e3 (by rw [hdv]; omega)]
          exact hb

theorem roadFold_ok {f : Fl} {L : List (List Int)} {bu : Int} {s : List Int} {rec : List Int → Rs} (hok : FlOk f) (hs : StOk f s) : ∀ (r : List (List Int)) (t : List Rd) (k : Nat) (b : Rs) (m : Rd),
    (∀ x ∈ r, StOk f x ∧ x ≠ []) → (∀ j, j < r.length → L[k + j]? = r[j]?) → t.length = r.length → (∀ j, j < r.length → ∀ y, t[j]? = some y → RdOk L (rec (r[j]?.getD [])) y) → RdOk L b m →
    RdOk L (r.foldl (bestStep f.times bu s rec) b) (roadFold f.times bu s m r t k) := by
  intro r
  induction r with
  | nil => intro t k b m _ _ _ _ hb; cases t <;> exact hb
  | cons x r ih =>
    intro t k b m hx hL ht hr hb
    cases t with
    | nil => simp at ht
    | cons y t =>
      simp only [List.foldl_cons, roadFold]
      have hx0 := hx x (by simp)
      have hk : L[k]? = some x := by have := hL 0 (by simp); simpa using this
      have hy := hr 0 (by simp) y (by simp)
      simp at hy
      refine ih t (k + 1) _ _ (fun z hz => hx z (by simp [hz])) (fun j hj => ?_) (by simpa using ht) (fun j hj z hz => ?_) (roadStep_ok hok hs hx0.1 hx0.2 hk hb hy)
      · have := hL (j + 1) (by simpa using hj)
        rw [show k + 1 + j = k + (j + 1) by omega, this]; simp
      · have := hr (j + 1) (by simpa using hj) z (by simpa using hz)
        simpa using this

/-- the rest of a state, over the states behind it -/
theorem bestV_behind {f : Fl} {to : List Int} {bu : Int} {pre r : List (List Int)} {s : List Int} (hs : StOk f s) (hto : StOk f to) (hall : allV f = pre ++ s :: r) (hne : s ≠ to) :
    bestV f to bu s = r.foldl (bestStep f.times bu s (bestV f to bu)) Rs.no := by
  have hl : s.length = to.length := by rw [hs.len, hto.len]
  have hasc := allV_asc f
  rw [hall] at hasc
  have hpre : ∀ x ∈ pre, cmpL s x = 1 := fun x hx => (List.pairwise_append.1 hasc).2.2 x hx s (by simp)
  have hmem : ∀ x ∈ pre ++ s :: r, StOk f x := fun x hx => (allV_ok (by rw [hall]; exact hx)).1
  have hskip : ∀ x ∈ pre ++ s :: r, (aboveV x s && aboveV to x) = false → ∀ b, bestStep f.times bu s (bestV f to bu) b x = b := by
    intro x hx hp b
    unfold bestStep
    cases hst : stepsB f.times s x bu with
    | false => simp
    | true =>
      obtain ⟨ha, hn, _⟩ := stepsB_true hst
      rw [ha] at hp
      simp only [Bool.true_and] at hp
      have hxs := hmem x hx
      have hnx : x ≠ to := fun e => by subst e; rw [aboveV_refl] at hp; cases hp
      have : (bestV f to bu x).is = false := by rw [bestV_eq (by rw [hxs.len, hto.len]), if_neg hnx, hp]; rfl
      simp [this]
  have hfold : (pre ++ s :: r).foldl (bestStep f.times bu s (bestV f to bu)) Rs.no = r.foldl (bestStep f.times bu s (bestV f to bu)) Rs.no := by
    have hp : ∀ (l : List (List Int)) (b : Rs), (∀ x ∈ l, x = s ∨ cmpL s x = 1) → (∀ x ∈ l, StOk f x) → l.foldl (bestStep f.times bu s (bestV f to bu)) b = b := by
      intro l
      induction l with
      | nil => intro b _ _; rfl
      | cons x l ih =>
        intro b h hx
        rw [List.foldl_cons]
        have h0 : bestStep f.times bu s (bestV f to bu) b x = b := by
          unfold bestStep
          cases hst : stepsB f.times s x bu with
          | false => simp
          | true =>
            obtain ⟨ha, hn, _⟩ := stepsB_true hst
            rcases h x (by simp) with e | e
            · exact absurd e.symm hn
            · have h1 := above_cmp (by rw [(hx x (by simp)).len, hs.len]) ha (Ne.symm hn)
              have := cmpL_anti x s
              omega
        rw [h0]
        exact ih b (fun y hy => h y (by simp [hy])) (fun y hy => hx y (by simp [hy]))
    rw [show pre ++ s :: r = (pre ++ [s]) ++ r by simp, List.foldl_append, hp (pre ++ [s]) Rs.no (fun x hx => ?_) (fun x hx => hmem x (by simp at hx ⊢; rcases hx with h | h <;> simp [h]))]
    rcases List.mem_append.1 hx with h | h
    · exact .inr (hpre x h)
    · exact .inl (by simpa using h)
  rw [bestV_eq hl, if_neg hne]
  cases ha : aboveV to s with
  | true =>
    rw [if_pos rfl, enum_filter hs hto, hall, foldl_filter _ _ _ _ hskip, hfold]
  | false =>
    rw [if_neg (by simp), ← hfold, ← foldl_filter _ (fun x => aboveV x s && aboveV to x) _ _ hskip]
    have : (pre ++ s :: r).filter (fun x => aboveV x s && aboveV to x) = [] := by
      rw [List.filter_eq_nil_iff]
      intro x hx hb
      simp only [Bool.and_eq_true] at hb
      have := aboveV_trans hs (hmem x hx) hto hb.1 hb.2
      rw [ha] at this; cases this
    rw [this]; rfl

/-- THE TABLE HOLDS THE RESTS -/
theorem roadsF_ok {f : Fl} {to : List Int} {bu : Int} (hok : FlOk f) (hto : StOk f to) : ∀ (r pre : List (List Int)), allV f = pre ++ r → ∀ j, j < r.length → ∀ y, (roadsF f.times to bu r pre.length)[j]? = some y → RdOk (allV f) (bestV f to bu (r[j]?.getD [])) y := by
  intro r
  induction r with
  | nil => intro pre _ j hj; simp at hj
  | cons s r ih =>
    intro pre hall j hj y hy
    have hr := ih (pre ++ [s]) (by rw [hall]; simp)
    have hlen : (pre ++ [s]).length = pre.length + 1 := by simp
    rw [hlen] at hr
    have hmem : ∀ x ∈ pre ++ s :: r, StOk f x := fun x hx => (allV_ok (by rw [hall]; exact hx)).1
    have hs := hmem s (by simp)
    have hn1 := hok.n1
    have hnil : ∀ x, StOk f x → x ≠ [] := fun x hx e => by have := hx.len; rw [e] at this; simp at this; omega
    cases j with
    | succ j =>
      simp only [roadsF] at hy
      have := hr j (by simpa using hj) y (by simpa using hy)
      simpa using this
    | zero =>
      simp only [roadsF, List.getElem?_cons_zero, Option.some.injEq] at hy
      simp only [List.getElem?_cons_zero, Option.getD_some]
      by_cases he : s = to
      · subst he
        rw [if_pos rfl] at hy
        subst hy
        rw [bestV_eq rfl, if_pos rfl]
        exact ⟨fun h => by simp [Rs.fin] at h, fun _ => ⟨by decide, rfl, rfl⟩, fun _ h => absurd rfl h, fun _ _ => rfl⟩
      · rw [if_neg he] at hy
        subst hy
        rw [bestV_behind hs hto hall he]
        refine roadFold_ok hok hs r _ (pre.length + 1) Rs.no Rd.no (fun x hx => ?_) (fun j hj => ?_) (roadsF_len _ _) hr (RdOk.none _)
        · have := hmem x (by simp [hx])
          exact ⟨this, hnil x this⟩
        · rw [hall, show pre ++ s :: r = (pre ++ [s]) ++ r by simp, List.getElem?_append_right (by simp)]
          congr 1
          simp
end
section
def roadsV (f : Fl) (to : List Int) (bu : Int) : List Rd := roadsF f.times to bu (allV f) 0
theorem roadsV_len (f : Fl) (to : List Int) (bu : Int) : (roadsV f to bu).length = (allV f).length := roadsF_len _ _
theorem roadsV_ok {f : Fl} {to : List Int} {bu : Int} (hok : FlOk f) (hto : StOk f to) {j : Nat} (hj : j < (allV f).length) : RdOk (allV f) (bestV f to bu ((allV f)[j]?.getD [])) ((roadsV f to bu)[j]?.getD Rd.no) := by
  have hl : j < (roadsV f to bu).length := by rw [roadsV_len]; exact hj
  have h := roadsF_ok (bu := bu) hok hto (allV f) [] (by simp) j hj ((roadsV f to bu)[j]?.getD Rd.no) (by
    show (roadsV f to bu)[j]? = _
    simp [hl])
  exact h

/-- where the way goes on -/
theorem road_on {f : Fl} {to : List Int} {bu : Int} (hok : FlOk f) (hto : StOk f to) {s : List Int} {m : Rd} (hs : StOk f s) (hi : (bestV f to bu s).is = true) (hm : RdOk (allV f) (bestV f to bu s) m) :
    (m.nxt < 0 → s = to ∧ pathV f to bu s = []) ∧
    (¬ m.nxt < 0 → m.nxt.toNat < (allV f).length ∧ (m.nxt.toNat : Int) = m.nxt ∧ pathV f to bu s = (allV f)[m.nxt.toNat]?.getD [] :: pathV f to bu ((allV f)[m.nxt.toNat]?.getD []) ∧
      (bestV f to bu ((allV f)[m.nxt.toNat]?.getD [])).is = true ∧ StOk f ((allV f)[m.nxt.toNat]?.getD []) ∧ gap ((allV f)[m.nxt.toNat]?.getD []) to < gap s to) := by
  have hl : s.length = to.length := by rw [hs.len, hto.len]
  have hn1 := hok.n1
  by_cases he : s = to
  · subst he
    have hb : (bestV f s bu s).nxt = [] := by rw [bestV_eq rfl, if_pos rfl]; rfl
    have hn := hm.nn hi hb
    exact ⟨fun _ => ⟨rfl, pathV_end _ _ _⟩, fun h => absurd (by rw [hn]; decide) h⟩
  · obtain ⟨h1, h2, h3⟩ := bestV_next hl he hi
    have hbt := enum_between h1
    have hsx := hs.btw hto hbt.1
    have hne : (bestV f to bu s).nxt ≠ [] := fun e => by have := hsx.len; rw [e] at this; simp at this; omega
    obtain ⟨k1, k2, k3⟩ := hm.nx hi hne
    refine ⟨fun h => by omega, fun _ => ?_⟩
    rw [k3]
    exact ⟨k2, Int.toNat_of_nonneg k1, pathV_step hl he hi, h3, hsx, (next_gap hl he hi).1⟩

/-- the reference's plan finds a way exactly if the planner does -/
def idxV (L : List (List Int)) (s : List Int) : Nat := L.findIdx (fun x => decide (x = s))
theorem idxV_at {L : List (List Int)} {s : List Int} (h : s ∈ L) : idxV L s < L.length ∧ L[idxV L s]?.getD [] = s := by
  have hlt : idxV L s < L.length := List.findIdx_lt_length_of_exists ⟨s, h, by simp⟩
  refine ⟨hlt, ?_⟩
  have := List.findIdx_getElem (w := hlt)
  simp only [decide_eq_true_eq] at this
  simp only [List.getElem?_eq_getElem hlt, Option.getD_some]
  exact this
theorem road_is {f : Fl} {b : Rs} {m : Rd} (hm : RdOk (allV f) b m) : (m.steps < 0 ↔ b.is = false) := by
  constructor
  · intro h
    cases hi : b.is with
    | false => rfl
    | true => have := (hm.yes hi).1; omega
  · intro h; rw [hm.no h]; decide
end
end Go.Proofs.Ytlilojpnhmfnaaa
