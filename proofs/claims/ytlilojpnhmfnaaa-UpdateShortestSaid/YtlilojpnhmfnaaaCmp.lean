/- Contracts of the functions that compare slices of numbers: slices.Equal, sameInts, same, above, within. -/
import Derived.Test.YtlilojpnhmfnaaaProg
import Derived.Test.YtlilojpnhmfnaaaSpec
import Derived.Deep.QuietTactic
import Derived.BigQuiet
import Derived.Outline
namespace Go.Proofs.Ytlilojpnhmfnaaa
open Go.RowKit

def withinB (n lo hi : Int) : Bool := decide (lo ≤ n) && decide (n ≤ hi)

set_option maxHeartbeats 400000 in
theorem within_any (n lo hi : Int) (w : World) : Calls Try.prog 61 #[.int .i64 n, .int .i64 lo, .int .i64 hi] w fun e w' => e = .returned (.bool (withinB n lo hi)) ∧ w = w' := by
  by_cases h1 : lo ≤ n
  · by_cases h2 : n ≤ hi
    · go_enter Try.func61, Try.ntmps61
      go_wp2
      go_ret
      exact ⟨by simp [withinB, h1, h2], rfl⟩
    · go_enter Try.func61, Try.ntmps61
      go_wp2
      go_ret
      exact ⟨by simp [withinB, h2], rfl⟩
  · have : decide (lo ≤ n) = false := by simpa using h1
    go_enter Try.func61, Try.ntmps61
    go_wp2
    go_ret
    exact ⟨ret_bool (by simp only [withinB, this, Bool.false_and]), rfl⟩

set_option maxHeartbeats 400000 in
theorem within2_any (n lo hi : Int) (w : World) : Calls Try.prog 63 #[.int .i64 n, .int .i64 lo, .int .i64 hi] w fun e w' => e = .returned (.bool (withinB n lo hi)) ∧ w = w' := by
  by_cases h1 : lo ≤ n
  · by_cases h2 : n ≤ hi
    · go_enter Try.func63, Try.ntmps63
      go_wp2
      go_ret
      exact ⟨by simp [withinB, h1, h2], rfl⟩
    · go_enter Try.func63, Try.ntmps63
      go_wp2
      go_ret
      exact ⟨by simp [withinB, h2], rfl⟩
  · have : decide (lo ≤ n) = false := by simpa using h1
    go_enter Try.func63, Try.ntmps63
    go_wp2
    go_ret
    exact ⟨ret_bool (by simp only [withinB, this, Bool.false_and]), rfl⟩

/-- two lists agree on their first n numbers -/
def eqUpto (n : Nat) (xs ys : List Int) : Prop := ∀ j, j < n → xs[j]?.getD 0 = ys[j]?.getD 0

theorem eqUpto_iff {xs ys : List Int} (h : xs.length = ys.length) : eqUpto xs.length xs ys ↔ xs = ys := by
  constructor
  · intro hu
    apply List.ext_getElem h
    intro i h1 h2
    have := hu i h1
    simpa [h1, h2] using this
  · rintro rfl j _; rfl

set_option maxHeartbeats 400000 in
theorem above_any (a b : Option Addr) (n c m d : Nat) (xs ys : List Int) (w : World) (ha : Ints w a n xs) (hb : Ints w b m ys) (hnm : n ≤ m) :
    Calls Try.prog 55 #[.slice a n c, .slice b m d] w fun e w' => e = .returned (.bool (aboveV xs ys)) ∧ ∃ q, w' = w.drewN q := by
  have hn := ha.lt
  go_enter Try.func55, Try.ntmps55
  go_wp2
  go_loopw [8] (fun i wr => ∃ k q : Nat, k ≤ n ∧ i = .int .i64 k ∧ wr = w.drewN q ∧ Hid (∀ j, j < k → ys[j]?.getD 0 ≤ xs[j]?.getD 0)) (fun i _ => n - (intOf i).toNat)
  case atStart => exact ⟨0, 0, Nat.zero_le _, rfl, rfl, Lib.hid (by intros; omega)⟩
  case round =>
    obtain ⟨k, q, hk, rfl, rfl, hall⟩ := hrel
    by_cases hlt : k < n
    · obtain ⟨aa, rfl, hab, hac⟩ := ha.at hlt
      obtain ⟨bb, rfl, hbb, hbc⟩ := hb.at (j := k) (by omega)
      by_cases hc : xs[k]?.getD 0 < ys[k]?.getD 0
      · go_wp2
        go_region
        go_wp2
        go_ret
        exact ⟨ret_bool (aboveV_false ha.len hlt hc).symm, _, rfl⟩
      · go_wp2
        go_region
        go_wp2
        go_roundw
        case rel => exact ⟨k + 1, _, by omega, by go_num, rfl, Lib.hid (fun j hj => by
          by_cases e : j = k
          · subst e; omega
          · exact hall.out j (by omega))⟩
        case measure => simp [intOf]; omega
    · obtain rfl : k = n := by omega
      go_wp2
      go_ret
      exact ⟨ret_bool (aboveV_true ha.len hall.out).symm, _, rfl⟩

theorem decide_eq_of_upto {n : Nat} {xs ys : List Int} (hx : xs.length = n) (hy : ys.length = n) (h : ∀ j, j < n → xs[j]?.getD 0 = ys[j]?.getD 0) : decide (xs = ys) = true := by
  subst hx; simp only [decide_eq_true_eq]; exact (eqUpto_iff hy.symm).1 h
theorem decide_ne_of_at {k : Nat} {xs ys : List Int} (h : ¬ xs[k]?.getD 0 = ys[k]?.getD 0) : decide (xs = ys) = false := by
  simp only [decide_eq_false_iff_not]; rintro rfl; exact h rfl
theorem decide_ne_of_len {xs ys : List Int} (h : ¬ xs.length = ys.length) : decide (xs = ys) = false := by
  simp only [decide_eq_false_iff_not]; rintro rfl; exact h rfl

set_option maxHeartbeats 400000 in
theorem equal_any (a b : Option Addr) (n c m d : Nat) (xs ys : List Int) (w : World) (ha : Ints w a n xs) (hb : Ints w b m ys) :
    Calls Try.prog 50 #[.slice a n c, .slice b m d] w fun e w' => e = .returned (.bool (decide (xs = ys))) ∧ ∃ q, w' = w.drewN q := by
  have hn := ha.lt
  by_cases hnm : n = m
  · subst hnm
    go_enter Try.func50, Try.ntmps50
    go_wp2
    go_loopw [13] (fun i wr => ∃ k q : Nat, k ≤ n ∧ i = .int .i64 k ∧ wr = w.drewN q ∧ Hid (∀ j, j < k → xs[j]?.getD 0 = ys[j]?.getD 0)) (fun i _ => n - (intOf i).toNat)
    case atStart => exact ⟨0, 0, Nat.zero_le _, rfl, rfl, Lib.hid (by intros; omega)⟩
    case round =>
      obtain ⟨k, q, hk, rfl, rfl, hall⟩ := hrel
      by_cases hlt : k < n
      · obtain ⟨aa, rfl, hab, hac⟩ := ha.at hlt
        obtain ⟨bb, rfl, hbb, hbc⟩ := hb.at (j := k) (by omega)
        by_cases hc : xs[k]?.getD 0 = ys[k]?.getD 0
        · have hcb : (xs[k]?.getD 0 != ys[k]?.getD 0) = false := by simp [hc]
          have HC := Lib.hid hc
          clear hc
          go_wp2
          go_region
          go_wp2
          go_roundw
          case rel => exact ⟨k + 1, _, by omega, by go_num, rfl, Lib.hid (fun j hj => by
            by_cases e : j = k
            · subst e; exact HC.out
            · exact hall.out j (by omega))⟩
          case measure => simp [intOf]; omega
        · have hcb : (xs[k]?.getD 0 != ys[k]?.getD 0) = true := by simp [hc]
          have HC := Lib.hid hc
          clear hc
          go_wp2
          go_region
          go_wp2
          go_ret
          exact ⟨ret_bool (decide_ne_of_at HC.out).symm, _, rfl⟩
      · obtain rfl : k = n := by omega
        go_wp2
        go_ret
        exact ⟨ret_bool (decide_eq_of_upto ha.len hb.len hall.out).symm, _, rfl⟩
  · have hne : ((n : Int) != (m : Int)) = true := by rw [bne_iff_ne]; omega
    go_enter Try.func50, Try.ntmps50
    go_wp2
    go_ret
    exact ⟨ret_bool (decide_ne_of_len (by rw [ha.len, hb.len]; exact hnm)).symm, 0, rfl⟩

set_option maxHeartbeats 400000 in
theorem sameInts_any (a b : Option Addr) (n c m d : Nat) (xs ys : List Int) (w : World) (ha : Ints w a n xs) (hb : Ints w b m ys) :
    Calls Try.prog 22 #[.slice a n c, .slice b m d] w fun e w' => e = .returned (.bool (decide (xs = ys))) ∧ ∃ q, w' = w.drewN q := by
  have hn := ha.lt
  by_cases hnm : n = m
  · subst hnm
    go_enter Try.func22, Try.ntmps22
    go_wp2
    go_loopw [5] (fun i wr => ∃ k q : Nat, k ≤ n ∧ i = .int .i64 k ∧ wr = w.drewN q ∧ Hid (∀ j, j < k → xs[j]?.getD 0 = ys[j]?.getD 0)) (fun i _ => n - (intOf i).toNat)
    case atStart => exact ⟨0, 0, Nat.zero_le _, rfl, rfl, Lib.hid (by intros; omega)⟩
    case round =>
      obtain ⟨k, q, hk, rfl, rfl, hall⟩ := hrel
      by_cases hlt : k < n
      · obtain ⟨aa, rfl, hab, hac⟩ := ha.at hlt
        obtain ⟨bb, rfl, hbb, hbc⟩ := hb.at (j := k) (by omega)
        by_cases hc : xs[k]?.getD 0 = ys[k]?.getD 0
        · have hcb : (xs[k]?.getD 0 != ys[k]?.getD 0) = false := by simp [hc]
          have HC := Lib.hid hc
          clear hc
          go_wp2
          go_region
          go_wp2
          go_roundw
          case rel => exact ⟨k + 1, _, by omega, by go_num, rfl, Lib.hid (fun j hj => by
            by_cases e : j = k
            · subst e; exact HC.out
            · exact hall.out j (by omega))⟩
          case measure => simp [intOf]; omega
        · have hcb : (xs[k]?.getD 0 != ys[k]?.getD 0) = true := by simp [hc]
          have HC := Lib.hid hc
          clear hc
          go_wp2
          go_region
          go_wp2
          go_ret
          exact ⟨ret_bool (decide_ne_of_at HC.out).symm, _, rfl⟩
      · obtain rfl : k = n := by omega
        go_wp2
        go_ret
        exact ⟨ret_bool (decide_eq_of_upto ha.len hb.len hall.out).symm, _, rfl⟩
  · have hne : ((n : Int) != (m : Int)) = true := by rw [bne_iff_ne]; omega
    go_enter Try.func22, Try.ntmps22
    go_wp2
    go_ret
    exact ⟨ret_bool (decide_ne_of_len (by rw [ha.len, hb.len]; exact hnm)).symm, 0, rfl⟩
set_option maxHeartbeats 400000 in
theorem same_any (a b : Option Addr) (n c d : Nat) (xs ys : List Int) (w : World) (ha : Ints w a n xs) (hb : Ints w b n ys) :
    Calls Try.prog 100 #[.slice a n c, .slice b n d] w fun e w' => e = .returned (.bool (decide (xs = ys))) ∧ ∃ q, w' = w.drewN q := by
  have hn := ha.lt
  go_enter Try.func100, Try.ntmps100
  go_wp2
  go_loopw [5] (fun i wr => ∃ k q : Nat, k ≤ n ∧ i = .int .i64 k ∧ wr = w.drewN q ∧ Hid (∀ j, j < k → xs[j]?.getD 0 = ys[j]?.getD 0)) (fun i _ => n - (intOf i).toNat)
  case atStart => exact ⟨0, 0, Nat.zero_le _, rfl, rfl, Lib.hid (by intros; omega)⟩
  case round =>
    obtain ⟨k, q, hk, rfl, rfl, hall⟩ := hrel
    by_cases hlt : k < n
    · obtain ⟨aa, rfl, hab, hac⟩ := ha.at hlt
      obtain ⟨bb, rfl, hbb, hbc⟩ := hb.at (j := k) (by omega)
      by_cases hc : xs[k]?.getD 0 = ys[k]?.getD 0
      · have hcb : (xs[k]?.getD 0 != ys[k]?.getD 0) = false := by simp [hc]
        have HC := Lib.hid hc
        clear hc
        go_wp2
        go_region
        go_wp2
        go_roundw
        case rel => exact ⟨k + 1, _, by omega, by go_num, rfl, Lib.hid (fun j hj => by
          by_cases e : j = k
          · subst e; exact HC.out
          · exact hall.out j (by omega))⟩
        case measure => simp [intOf]; omega
      · have hcb : (xs[k]?.getD 0 != ys[k]?.getD 0) = true := by simp [hc]
        have HC := Lib.hid hc
        clear hc
        go_wp2
        go_region
        go_wp2
        go_ret
        exact ⟨ret_bool (decide_ne_of_at HC.out).symm, _, rfl⟩
    · obtain rfl : k = n := by omega
      go_wp2
      go_ret
      exact ⟨ret_bool (decide_eq_of_upto ha.len hb.len hall.out).symm, _, rfl⟩
end Go.Proofs.Ytlilojpnhmfnaaa
