/- The example of the chapter: what Plan and Least return there; sameStates, Example and works. -/
import Derived.Test.YtlilojpnhmfnaaaLeastD
namespace Go.Proofs.Ytlilojpnhmfnaaa
open Go.RowKit

def exF : Fl := ⟨[[5, 8], [4], [6]], [⟨0, 1, 1, 0⟩, ⟨0, 2, 2, 0⟩]⟩
theorem ex_plan : planV exF [0, 0, 0] [2, 1, 1] 8 = [[0, 0, 1], [0, 1, 1], [2, 1, 1]] := by kernel_rfl
theorem ex_planE : planE exF [0, 0, 0] [2, 1, 1] 8 = 0 := by kernel_rfl
theorem ex_least : leastR exF [0, 0, 0] [2, 1, 1] = 8 := by kernel_rfl
theorem ex_leastE : leastE exF [0, 0, 0] [2, 1, 1] = 0 := by kernel_rfl

theorem rows_eq {L M : List (List Int)} {n : Nat} (hL : L.length = n) (hM : M.length = n) (h : ∀ j, j < n → L[j]?.getD [] = M[j]?.getD []) : L = M := by
  apply List.ext_getElem?
  intro i
  by_cases hi : i < n
  · have := h i hi
    have h1 : i < L.length := by omega
    have h2 : i < M.length := by omega
    simp [h1, h2] at this ⊢
    exact this
  · rw [List.getElem?_eq_none (by omega), List.getElem?_eq_none (by omega)]

set_option maxHeartbeats 1000000 in
theorem sameStates_any (a b : Option Addr) (n c m d : Nat) (L M : List (List Int)) (w : World) (hL : RowsAt w a n L) (hM : RowsAt w b m M) :
    Calls Try.prog 19 #[.slice a n c, .slice b m d] w fun e w' => e = .returned (.bool (decide (L = M))) ∧ Gr w w' := by
  have hn := hL.lt
  have hm := hM.lt
  by_cases hnm : n = m
  · subst hnm
    have hne : ((n : Int) != (n : Int)) = false := by simp
    have HLn := Lib.hid hL.len
    have HMn := Lib.hid hM.len
    go_enter Try.func19, Try.ntmps19
    go_wp2_with fail
    go_loopw [5] (fun i wr => ∃ k : Nat, k ≤ n ∧ i = .int .i64 k ∧ Gr w wr ∧ Hid (∀ j, j < k → L[j]?.getD [] = M[j]?.getD [])) (fun i _ => n - (intOf i).toNat)
    case atStart => exact ⟨0, Nat.zero_le _, rfl, Gr.refl _, Lib.hid (fun j hj => by omega)⟩
    case round =>
      obtain ⟨k, hk, rfl, hg, hj⟩ := hrel
      by_cases hlt : k < n
      · obtain ⟨ad, a', n', c', rfl, hab, hac, hai⟩ := (hL.gr hg).at hlt
        obtain ⟨bd, b', m', d', rfl, hbb, hbc, hbi⟩ := (hM.gr hg).at hlt
        have hq : ∀ k', Hid (Calls Try.prog 22 #[.slice a' n' c', .slice b' m' d'] (wr.drewN k') fun e w' => e = .returned (.bool (decide (L[k]?.getD [] = M[k]?.getD []))) ∧ ∃ q, w' = (wr.drewN k').drewN q) := fun k' => Lib.hid (sameInts_any a' b' n' c' m' d' _ _ (wr.drewN k') (hai.gr (Gr.drewN _ _)) (hbi.gr (Gr.drewN _ _)))
        have HQ := Lib.hid hq
        clear hq
        go_wp2_with fail
        go_quiet ((go_at_call 22; exact Calls.quiet_of (HQ.out _).out))
        cases he : decide (L[k]?.getD [] = M[k]?.getD []) with
        | true =>
          have he' : L[k]?.getD [] = M[k]?.getD [] := of_decide_eq_true he
          have HE := Lib.hid he'
          clear he he'
          go_wp2_with fail
          go_roundw
          case rel => exact ⟨k + 1, by omega, by go_num, hg.drewNR _, Lib.hid (fun j hj' => by
            by_cases e : j = k
            · subst e; exact HE.out
            · exact hj.out j (by omega))⟩
          case measure => simp [intOf]; omega
        | false =>
          have he' : ¬ L[k]?.getD [] = M[k]?.getD [] := of_decide_eq_false he
          have hne2 : Hid (decide (L = M) = false) := Lib.hid (decide_eq_false (fun e => he' (by rw [e])))
          clear he he'
          go_wp2_with fail
          go_ret
          exact ⟨by rw [hne2.out]; rfl, hg.drewNR _⟩
      · obtain rfl : k = n := by omega
        have heq : Hid (decide (L = M) = true) := Lib.hid (decide_eq_true (rows_eq HLn.out HMn.out hj.out))
        go_wp2_with fail
        go_ret
        exact ⟨by rw [heq.out]; rfl, hg⟩
  · have hne : ((n : Int) != (m : Int)) = true := by simp; omega
    have hne2 : Hid (decide (L = M) = false) := Lib.hid (decide_eq_false (fun e => hnm (by rw [← hL.len, ← hM.len, e])))
    go_enter Try.func19, Try.ntmps19
    go_wp2_with fail
    go_ret
    exact ⟨by rw [hne2.out]; rfl, Gr.refl _⟩
end Go.Proofs.Ytlilojpnhmfnaaa
