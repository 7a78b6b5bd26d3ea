/- Contracts: the reference's Tag. -/
import Derived.Test.YtlilojpnhmfnaaaTag
import Derived.Test.YtlilojpnhmfnaaaNextF
namespace Go.Proofs.Ytlilojpnhmfnaaa
open Go.RowKit

theorem next2_quiet (t n : Int) (w : World) (k : Nat) (h0 : 0 ≤ t) (h1 : t ≤ 65520) (h2 : 0 ≤ n) (h3 : n ≤ 255) : Calls Try.prog 64 #[.int .i64 t, .int .i64 n] (w.drewN k) fun e w'' => e = .returned (.int .i64 (nextV t n)) ∧ ∃ m, w'' = w.drewN m :=
  Calls.quiet_of_same ((next2_any t n _ h0 h1 h2 h3).mono (fun _ _ h => ⟨h.1, h.2.symm⟩))

set_option maxHeartbeats 1000000 in
theorem TagR_any (s c v tg : Int) (data : ByteArray) (w : World) (hd : data.size < 1152921504606846976) :
    Calls Try.prog 26 #[.int .i64 s, .agg #[.int .i64 c, .int .i64 v, .string data, .int .i64 tg]] w fun e w' => e = .returned (.tuple #[.int .i64 (tagR s c v data), .int .i64 (tagE s c v data)]) ∧ Gr w w' := by
  have HW := Lib.hid within2_any
  cases h1 : withinB s 1 65520 with
  | false =>
    have HP : Hid (tagR s c v data = 0 ∧ tagE s c v data = 1) := Lib.hid (by simp [tagR, tagE, tagB, h1])
    go_enter Try.func26, Try.ntmps26
    go_wp2_with fail
    refine (HW.out _ _ _ _).mono ?_
    rintro e w1 ⟨rfl, rfl⟩
    go_wp2_with fail
    go_ret2
    exact ⟨by rw [HP.out.1, HP.out.2]; rfl, Gr.alloc _ _⟩
  | true =>
    cases h2 : withinB c 0 5 with
    | false =>
      have HP : Hid (tagR s c v data = 0 ∧ tagE s c v data = 1) := Lib.hid (by simp [tagR, tagE, tagB, h1, h2])
      go_enter Try.func26, Try.ntmps26
      go_wp2_with fail
      refine (HW.out _ _ _ _).mono ?_
      rintro e w1 ⟨rfl, rfl⟩
      go_wp2_with fail
      refine (HW.out _ _ _ _).mono ?_
      rintro e w1 ⟨rfl, rfl⟩
      go_wp2_with fail
      go_ret2
      exact ⟨by rw [HP.out.1, HP.out.2]; rfl, Gr.alloc _ _⟩
    | true =>
      cases h3 : withinB v 0 3 with
      | false =>
        have HP : Hid (tagR s c v data = 0 ∧ tagE s c v data = 1) := Lib.hid (by simp [tagR, tagE, tagB, h1, h2, h3])
        go_enter Try.func26, Try.ntmps26
        go_wp2_with fail
        refine (HW.out _ _ _ _).mono ?_
        rintro e w1 ⟨rfl, rfl⟩
        go_wp2_with fail
        refine (HW.out _ _ _ _).mono ?_
        rintro e w1 ⟨rfl, rfl⟩
        go_wp2_with fail
        refine (HW.out _ _ _ _).mono ?_
        rintro e w1 ⟨rfl, rfl⟩
        go_wp2_with fail
        go_ret2
        exact ⟨by rw [HP.out.1, HP.out.2]; rfl, Gr.alloc _ _⟩
      | true =>
        by_cases h4 : data.size ≤ 1000
        · have HP : Hid (tagR s c v data = tagL s c v data.data.toList ∧ tagE s c v data = 0) := Lib.hid (by simp [tagR, tagE, tagB, h1, h2, h3, h4])
          have h1' := withinB_iff.1 h1
          have h2' := withinB_iff.1 h2
          have h3' := withinB_iff.1 h3
          have b1 := nextV_bd s c
          have b2 := nextV_bd (nextV s c) v
          go_enter Try.func26, Try.ntmps26
          go_wp2_with fail
          refine (HW.out _ _ _ _).mono ?_
          rintro e w1 ⟨rfl, rfl⟩
          go_wp2_with fail
          refine (HW.out _ _ _ _).mono ?_
          rintro e w1 ⟨rfl, rfl⟩
          go_wp2_with fail
          refine (HW.out _ _ _ _).mono ?_
          rintro e w1 ⟨rfl, rfl⟩
          go_wp2_with fail
          obtain ⟨w1, hw1⟩ : ∃ w1, w.alloc (.cells #[.int .i64 c, .int .i64 v, .string data, .int .i64 tg] 46) = w1 := ⟨_, rfl⟩
          have g1 : Gr w w1 := by rw [← hw1]; exact Gr.alloc _ _
          have k0 : w1.cell? ⟨w.heap.size, 0, none⟩ = some (.int .i64 c) := by rw [← hw1]; exact cell_new rfl
          have k1 : w1.cell? ⟨w.heap.size, 1, none⟩ = some (.int .i64 v) := by rw [← hw1]; exact cell_new rfl
          have k2 : w1.cell? ⟨w.heap.size, 2, none⟩ = some (.string data) := by rw [← hw1]; exact cell_new rfl
          rw [hw1]
          clear hw1
          go_quiet ((go_at_call 64; exact next2_quiet _ _ _ _ (by omega) (by omega) (by omega) (by omega)))
          have k2' : ∀ n, (w1.drewN n).cell? ⟨w.heap.size, 2, none⟩ = some (.string data) := fun n => k2
          have g1' := g1.drewNR nq
          have kk := k2' nq
          obtain ⟨w2, hw2⟩ : ∃ w2, w1.drewN nq = w2 := ⟨_, rfl⟩
          rw [hw2] at g1' kk ⊢
          clear hw2 k2' k0 k1 k2
          go_wp2_with fail
          go_loop [6, 7] (fun t i => ∃ k : Nat, k ≤ data.size ∧ i = .int .i64 k ∧ t = .int .i64 (tagL s c v (data.data.toList.take k))) (fun _ i => data.size - (intOf i).toNat)
          case atStart => exact ⟨0, Nat.zero_le _, rfl, rfl⟩
          case round =>
            obtain ⟨k, hk, rfl, rfl⟩ := hrel
            have hb := tagL_bd s c v (data.data.toList.take k)
            by_cases hlt : k < data.size
            · have hsn : Hid (tagL s c v (data.data.toList.take (k + 1)) = nextV (tagL s c v (data.data.toList.take k)) (data[k].toNat : Int)) := Lib.hid (by rw [take_snocB data k hlt, tagL_snoc])
              have hby : (data[k].toNat : Int) ≤ 255 := by have := data[k].toNat_lt; omega
              generalize tagL s c v (data.data.toList.take k) = tk at *
              go_wp2_with fail
              refine (next2_any tk _ _ hb.1 hb.2 (by omega) hby).mono ?_
              rintro e w3 ⟨rfl, rfl⟩
              go_wp2_with fail
              go_round
              case rel => exact ⟨k + 1, by omega, by go_num, by rw [hsn.out]⟩
              case measure => simp [intOf]; omega
            · obtain rfl : k = data.size := by omega
              go_wp2_with fail
              go_ret2
              refine ⟨?_, g1'⟩
              rw [HP.out.1, HP.out.2]
              have : data.data.toList.take data.size = data.data.toList := List.take_of_length_le (by simp)
              rw [this]
              rfl
        · have HP : Hid (tagR s c v data = 0 ∧ tagE s c v data = 1) := Lib.hid (by simp [tagR, tagE, tagB, h1, h2, h3, h4])
          go_enter Try.func26, Try.ntmps26
          go_wp2_with fail
          refine (HW.out _ _ _ _).mono ?_
          rintro e w1 ⟨rfl, rfl⟩
          go_wp2_with fail
          refine (HW.out _ _ _ _).mono ?_
          rintro e w1 ⟨rfl, rfl⟩
          go_wp2_with fail
          refine (HW.out _ _ _ _).mono ?_
          rintro e w1 ⟨rfl, rfl⟩
          go_wp2_with fail
          go_ret2
          exact ⟨by rw [HP.out.1, HP.out.2]; rfl, Gr.alloc _ _⟩
end Go.Proofs.Ytlilojpnhmfnaaa
