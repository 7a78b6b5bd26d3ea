/- Contracts: keyOf, cmp.Compare, cmp.Or. -/
import Derived.Test.YtlilojpnhmfnaaaMemo
import Derived.Laws.CopyOwn
import Derived.Outline
namespace Go.Proofs.Ytlilojpnhmfnaaa
set_option linter.unusedVariables false
open Go.RowKit

theorem splice_get (xs : List Int) (h : xs.length ≤ 6) (j : Nat) (hj : j < 6) : (splice [Value.int .i64 0, .int .i64 0, .int .i64 0, .int .i64 0, .int .i64 0, .int .i64 0] 0 (xs.map (Value.int .i64)))[j]? = some (.int .i64 (xs[j]?.getD 0)) := by
  unfold splice
  by_cases hx : j < xs.length
  · simp [List.getElem?_append_left, hx]
  · have e : xs[j]? = none := List.getElem?_eq_none (by omega)
    simp [e]
    rw [List.getElem?_append_right (by simp; omega)]
    simp
    have : xs.length + (j - xs.length) = j := by omega
    rw [this]
    have : j = 0 ∨ j = 1 ∨ j = 2 ∨ j = 3 ∨ j = 4 ∨ j = 5 := by omega
    rcases this with rfl | rfl | rfl | rfl | rfl | rfl <;> rfl

set_option maxRecDepth 100000 in
set_option maxHeartbeats 400000 in
theorem keyOf_any (a : Option Addr) (n c : Nat) (xs : List Int) (w : World) (hx : Ints w a n xs) (h0 : 0 < n) (hn : n ≤ 6) : Calls Try.prog 57 #[.slice a n c] w fun e w' => e = .returned (keyV xs) ∧ Gr w w' := by
  have hxg := hx.gr (Gr.alloc w (.cells #[.int .i64 0, .int .i64 0, .int .i64 0, .int .i64 0, .int .i64 0, .int .i64 0] 89))
  have hlen := hx.len
  obtain ⟨ad, rfl, hab, _⟩ := hx.at h0
  obtain ⟨w', hw'⟩ : ∃ w' : World, w' = (w.alloc (.cells #[.int .i64 0, .int .i64 0, .int .i64 0, .int .i64 0, .int .i64 0, .int .i64 0] 89)).setRow w.heap.size (splice [.int .i64 0, .int .i64 0, .int .i64 0, .int .i64 0, .int .i64 0, .int .i64 0] 0 (xs.map (Value.int .i64))).toArray := ⟨_, rfl⟩
  have hrun : (Builtin.copy_ #[26, 26] 3 #[.slice (some ⟨w.heap.size, 0, none⟩) 6 6, .slice (some ad) n c]).run Try.prog (w.alloc (.cells #[.int .i64 0, .int .i64 0, .int .i64 0, .int .i64 0, .int .i64 0, .int .i64 0] 89)) = .ok (goInt n) w' := by
    have := run_copy_row (P := Try.prog) (w.alloc (.cells #[.int .i64 0, .int .i64 0, .int .i64 0, .int .i64 0, .int .i64 0, .int .i64 0] 89)) 26 26 3 3 w.heap.size 0 6 6 ad n c _ 89 (xs.map (Value.int .i64)) Try.underlying26 (by kernel_rfl) (World.alloc_heap_new _ _) (by rw [List.length_map, hlen]; exact (Nat.min_eq_left hn).symm) hxg.cells (by simp [hlen]; exact hn) (ints_one xs)
    rw [this, hw']
    simp [splice, hlen]
  have hh : w'.heap[w.heap.size]? = some (.cells (splice [.int .i64 0, .int .i64 0, .int .i64 0, .int .i64 0, .int .i64 0, .int .i64 0] 0 (xs.map (Value.int .i64))).toArray 89 (0, 0)) := by
    rw [hw']; exact (setRow_heap _ _ _ _ _ _ (World.alloc_heap_new _ _))
  have hg : Gr w w' := by
    rw [hw']; exact below_setRow (Gr.alloc _ _) (Nat.le_refl _) _
  have hc : ∀ j, j < 6 → w'.cell? ⟨w.heap.size, j, none⟩ = some (.int .i64 (xs[j]?.getD 0)) := fun j hj => by
    unfold World.cell?
    simp only [hh, List.getElem?_toArray]
    exact splice_get xs (by rw [hlen]; exact hn) j hj
  have hf : ∀ j, w'.frozen? ⟨w.heap.size, j, none⟩ = false := fun j => by
    unfold World.frozen?
    simp [hh]
  have h0 := hc 0 (by decide)
  have h1 := hc 1 (by decide)
  have h2 := hc 2 (by decide)
  have h3 := hc 3 (by decide)
  have h4 := hc 4 (by decide)
  have h5 := hc 5 (by decide)
  clear hc hh hw' hlen
  go_enter Try.func57, Try.ntmps57
  go_wp2
  refine bodyPost_ret (v := keyV xs) (by simp [results, Try.results57, go_sem, keyV, h0, h1, h2, h3, h4, h5]) rfl ⟨rfl, ?_⟩
  exact (((((hg.setCell (Nat.le_refl _) _).setCell (Nat.le_refl _) _).setCell (Nat.le_refl _) _).setCell (Nat.le_refl _) _).setCell (Nat.le_refl _) _).setCell (Nat.le_refl _) _

theorem isNaN_any (x : Int) (w : World) : Calls Try.prog 97 #[.int .i64 x] w fun e w' => e = .returned (.bool false) ∧ w = w' := by
  go_enter Try.func97, Try.ntmps97
  go_wp2
  go_ret
  exact ⟨by simp, rfl⟩

/-- -1, 0, 1 -/
def cmpI (x y : Int) : Int := if x < y then -1 else if y < x then 1 else 0

theorem compare_any (x y : Int) (w : World) : Calls Try.prog 83 #[.int .i64 x, .int .i64 y] w fun e w' => e = .returned (.int .i64 (cmpI x y)) ∧ w = w' := by
  by_cases h1 : x < y
  · have hc := Lib.hid (show cmpI x y = -1 by simp [cmpI, h1])
    go_enter Try.func83, Try.ntmps83
    go_wp2_with (go_at_call 97; refine (isNaN_any _ _).mono ?_; rintro e w' ⟨rfl, rfl⟩)
    go_ret
    exact ⟨by rw [hc.out]; rfl, rfl⟩
  · by_cases h2 : y < x
    · have hc := Lib.hid (show cmpI x y = 1 by simp [cmpI, h1, h2])
      go_enter Try.func83, Try.ntmps83
      go_wp2_with (go_at_call 97; refine (isNaN_any _ _).mono ?_; rintro e w' ⟨rfl, rfl⟩)
      go_ret
      exact ⟨by rw [hc.out]; rfl, rfl⟩
    · have hc := Lib.hid (show cmpI x y = 0 by simp [cmpI, h1, h2])
      go_enter Try.func83, Try.ntmps83
      go_wp2_with (go_at_call 97; refine (isNaN_any _ _).mono ?_; rintro e w' ⟨rfl, rfl⟩)
      go_ret
      exact ⟨by rw [hc.out]; rfl, rfl⟩

/-- the first of two that is not 0 -/
def orI (x y : Int) : Int := if x = 0 then y else x
theorem or_any (ad : Addr) (c : Nat) (x y : Int) (w : World) (h0 : w.cell? (ad.add 0) = some (.int .i64 x)) (h1 : w.cell? (ad.add 1) = some (.int .i64 y)) : Calls Try.prog 82 #[.slice (some ad) 2 c] w fun e w' => e = .returned (.int .i64 (orI x y)) ∧ w = w' := by
  have hc : ∀ k : Nat, k < 2 → w.cell? (ad.add k) = some (.int .i64 (if k = 0 then x else y)) := fun k hk => by
    have : k = 0 ∨ k = 1 := by omega
    rcases this with rfl | rfl
    · simpa using h0
    · simpa using h1
  have HC := Lib.hid hc
  clear hc h0 h1
  go_enter Try.func82, Try.ntmps82
  go_wp2
  go_loop [8] (fun i => ∃ k : Nat, k ≤ 2 ∧ i = .int .i64 k ∧ (1 ≤ k → Hid (x = 0)) ∧ (2 ≤ k → Hid (y = 0))) (fun i => 2 - (intOf i).toNat)
  case atStart => exact ⟨0, by omega, rfl, by omega, by omega⟩
  case round =>
    obtain ⟨k, hk, rfl, hx, hy⟩ := hrel
    by_cases hlt : k < 2
    · have hcell := HC.out k hlt
      generalize hz : (if k = 0 then x else y) = z at hcell
      have HZ := Lib.hid hz
      clear hz
      cases hb : (z != 0) with
      | true =>
        go_wp2
        go_ret
        refine ⟨ret_int ?_, rfl⟩
        have hz0 : z ≠ 0 := by simpa using hb
        have := HZ.out
        have hk01 : k = 0 ∨ k = 1 := by omega
        rcases hk01 with rfl | rfl
        · simp at this; subst this; unfold orI; rw [if_neg hz0]
        · simp at this; subst this; unfold orI; rw [if_pos (hx (by omega)).out]
      | false =>
        go_wp2
        go_round
        case rel =>
          have hz0 : z = 0 := by simpa using hb
          have := HZ.out
          refine ⟨k + 1, by omega, by go_num, fun _ => Lib.hid ?_, fun h2 => Lib.hid ?_⟩
          · by_cases e : k = 0
            · simp [e] at this; omega
            · exact (hx (by omega)).out
          · have e : k = 1 := by omega
            simp [e] at this; omega
        case measure => simp [intOf]; omega
    · obtain rfl : k = 2 := by omega
      go_wp2
      go_ret
      have hx0 := (hx (by omega)).out
      have hy0 := (hy (by omega)).out
      exact ⟨ret_int (by simp [orI, hx0, hy0]), rfl⟩
end Go.Proofs.Ytlilojpnhmfnaaa
