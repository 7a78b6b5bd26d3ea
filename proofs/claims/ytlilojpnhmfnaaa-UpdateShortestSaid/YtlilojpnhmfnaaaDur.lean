/- Contracts of duration and of the reference step. -/
import Derived.Test.YtlilojpnhmfnaaaCmp
namespace Go.Proofs.Ytlilojpnhmfnaaa
open Go.RowKit

set_option maxHeartbeats 400000 in
theorem duration_any (ta ca a b : Option Addr) (tn tc cn cc n c d : Nat) (f : Fl) (xs ys : List Int) (w : World) (hf : FlAt w ta tn ca cn f) (hok : FlOk f)
    (hx : Ints w a n xs) (hy : Ints w b n ys) (h0 : ∀ c, c < f.times.length → 0 ≤ xs[c]?.getD 0) (hs : StOk f ys) (hle : ∀ c, c < f.times.length → xs[c]?.getD 0 ≤ ys[c]?.getD 0) :
    Calls Try.prog 58 #[.agg #[.slice ta tn tc, .slice ca cn cc], .slice a n c, .slice b n d] w fun e w' => e = .returned (.int .i64 (dur f.times xs ys)) ∧ Gr w w' := by
  have hn := hx.lt
  have hlen : n = f.times.length := by rw [← hs.len, hy.len]
  have htn : tn = f.times.length := hf.t.len.symm
  have hbd := durTo_bd hok h0 hs hle
  have HL := Lib.hid hlen
  have HT := Lib.hid htn
  have HB := Lib.hid hbd
  have h6 : n ≤ 6 := by have := hok.n6; omega
  clear hlen htn hbd
  go_enter Try.func58, Try.ntmps58
  go_wp2

  obtain ⟨w1, hw1⟩ : ∃ w1, w.alloc (.cells #[.slice ta tn tc, .slice ca cn cc] 25) = w1 := ⟨_, rfl⟩
  have hg1 : Gr w w1 := by rw [← hw1]; exact Gr.alloc _ _
  have hc0 : w1.cell? ⟨w.heap.size, 0, none⟩ = some (.slice ta tn tc) := by rw [← hw1]; simp
  rw [hw1]
  clear hw1
  go_loop [6, 11] (fun t i => ∃ k : Nat, k ≤ n ∧ i = .int .i64 k ∧ t = .int .i64 (durTo f.times xs ys k)) (fun _ i => n - (intOf i).toNat)
  case atStart => exact ⟨0, Nat.zero_le _, rfl, rfl⟩
  case round =>
    obtain ⟨k, hk, rfl, rfl⟩ := hrel
    by_cases hlt : k < n
    · obtain ⟨aa, rfl, hab, hac⟩ := (hx.gr hg1).at hlt
      obtain ⟨bb, rfl, hbb, hbc⟩ := (hy.gr hg1).at hlt
      have hb := HB.out k (by have := HL.out; omega)
      by_cases hc : ys[k]?.getD 0 = xs[k]?.getD 0
      · have hcb : (ys[k]?.getD 0 != xs[k]?.getD 0) = false := by simp [hc]
        have HC := Lib.hid hc
        clear hc
        go_wp2
        go_round
        case rel => exact ⟨k + 1, by omega, by go_num, by simp [durTo, HC.out]⟩
        case measure => simp [intOf]; omega
      · have hcb : (ys[k]?.getD 0 != xs[k]?.getD 0) = true := by simp [hc]
        obtain ⟨tt, ra, rn, rc, rfl, htb, htc, hri⟩ := (hf.t.gr hg1).at (j := k) (by have := HL.out; have := HT.out; omega)
        have hkl : k < f.times.length := by have := HL.out; omega
        have hktn : k < tn := by have := HT.out; omega
        have hv1 : 1 ≤ ys[k]?.getD 0 := by have := h0 k hkl; have := hle k hkl; omega
        have hv2 : ys[k]?.getD 0 - 1 < rn := by have := (hs.ver k hkl).2; have := hri.len; omega
        have htm := tm_bd hok hkl hv1 (by have := (hs.ver k hkl).2; omega)
        have hsn : durTo f.times xs ys (k + 1) = durTo f.times xs ys k + tm f.times k (ys[k]?.getD 0) := by simp [durTo, hc]
        have hrl := hri.lt
        have HS := Lib.hid hsn
        obtain ⟨rr, rfl, hrb, hrc⟩ := hri.at (j := (ys[k]?.getD 0).toNat - 1) (by omega)
        have hrc' : w1.cell? (rr.add ((ys[k]?.getD 0).toNat - 1)) = some (.int .i64 (tm f.times k (ys[k]?.getD 0))) := hrc
        clear hc hsn hrc
        go_wp2
        go_round
        case rel => exact ⟨k + 1, by omega, by go_num, by rw [HS.out]⟩
        case measure => simp [intOf]; omega
    · obtain rfl : k = n := by omega
      go_wp2
      go_ret
      exact ⟨ret_int (by unfold dur; rw [hy.len]), hg1⟩

set_option maxHeartbeats 1000000 in
theorem step_any (ta ca a b : Option Addr) (tn tc cn cc n c d : Nat) (f : Fl) (xs ys : List Int) (w : World) (hf : FlAt w ta tn ca cn f) (hok : FlOk f)
    (hx : Ints w a n xs) (hy : Ints w b n ys) (h0 : StOk f xs) (hs : StOk f ys) :
    Calls Try.prog 70 #[.agg #[.slice ta tn tc, .slice ca cn cc], .slice a n c, .slice b n d] w fun e w' => e = .returned (.int .i64 (stepV f.times xs ys)) ∧ Gr w w' := by
  have hn := hx.lt
  have hlen : n = f.times.length := by rw [← hs.len, hy.len]
  have htn : tn = f.times.length := hf.t.len.symm
  have hbd := durTo_bd' (a := xs) hok (fun c hc => (h0.ver c hc).1) hs
  have HL := Lib.hid hlen
  have HT := Lib.hid htn
  have HB := Lib.hid hbd
  have h6 : n ≤ 6 := by have := hok.n6; omega
  clear hlen htn hbd
  go_enter Try.func70, Try.ntmps70
  go_wp2
  obtain ⟨w1, hw1⟩ : ∃ w1, w.alloc (.cells #[.slice ta tn tc, .slice ca cn cc] 25) = w1 := ⟨_, rfl⟩
  have hg1 : Gr w w1 := by rw [← hw1]; exact Gr.alloc _ _
  have hc0 : w1.cell? ⟨w.heap.size, 0, none⟩ = some (.slice ta tn tc) := by rw [← hw1]; simp
  rw [hw1]
  clear hw1
  go_loopw [7, 8] (fun t i wr => ∃ k q : Nat, k ≤ n ∧ i = .int .i64 k ∧ wr = w1.drewN q ∧ t = .int .i64 (durTo f.times xs ys k) ∧ Hid (∀ j, j < k → xs[j]?.getD 0 ≤ ys[j]?.getD 0)) (fun _ i _ => n - (intOf i).toNat)
  case atStart => exact ⟨0, 0, Nat.zero_le _, rfl, rfl, rfl, Lib.hid (by intros; omega)⟩
  case round =>
    obtain ⟨k, q, hk, rfl, rfl, rfl, hall⟩ := hrel
    have hb := HB.out k (by have := HL.out; omega) hall.out
    by_cases hlt : k < n
    · obtain ⟨aa, rfl, hab, hac⟩ := (hx.gr hg1).at hlt
      obtain ⟨bb, rfl, hbb, hbc⟩ := (hy.gr hg1).at hlt
      by_cases hc : ys[k]?.getD 0 < xs[k]?.getD 0
      · go_wp2
        go_region
        go_wp2
        go_ret
        exact ⟨ret_int (by rw [stepV, aboveV_false hy.len hlt hc]; rfl), hg1.drewNR _⟩
      · by_cases hd : ys[k]?.getD 0 = xs[k]?.getD 0
        · have h1 : ¬ xs[k]?.getD 0 < ys[k]?.getD 0 := by omega
          have HD := Lib.hid hd
          clear hd
          go_wp2
          go_region
          go_wp2
          go_region
          go_wp2
          go_roundw
          case rel => exact ⟨k + 1, _, by omega, by go_num, rfl, by simp [durTo, HD.out], Lib.hid (fun j hj => by
            by_cases e : j = k
            · subst e; omega
            · exact hall.out j (by omega))⟩
          case measure => simp [intOf]; omega
        · obtain ⟨tt, ra, rn, rc, rfl, htb, htc, hri⟩ := (hf.t.gr hg1).at (j := k) (by have := HL.out; have := HT.out; omega)
          have hkl : k < f.times.length := by have := HL.out; omega
          have hktn : k < tn := by have := HT.out; omega
          have h1 : xs[k]?.getD 0 < ys[k]?.getD 0 := by omega
          have hv1 : 1 ≤ ys[k]?.getD 0 := by have := (h0.ver k hkl).1; omega
          have hv2 : ys[k]?.getD 0 - 1 < rn := by have := (hs.ver k hkl).2; have := hri.len; omega
          have hv3 : 0 ≤ ys[k]?.getD 0 - 1 := by omega
          have htm := tm_bd hok hkl hv1 (by have := (hs.ver k hkl).2; omega)
          have hsn : durTo f.times xs ys (k + 1) = durTo f.times xs ys k + tm f.times k (ys[k]?.getD 0) := by simp [durTo, hd]
          have hrl := hri.lt
          have HS := Lib.hid hsn
          obtain ⟨rr, rfl, hrb, hrc⟩ := hri.at (j := (ys[k]?.getD 0).toNat - 1) (by omega)
          have hrc' : w1.cell? (rr.add ((ys[k]?.getD 0).toNat - 1)) = some (.int .i64 (tm f.times k (ys[k]?.getD 0))) := hrc
          clear hd hsn hrc
          go_wp2
          go_region
          go_wp2
          go_region
          go_wp2
          go_region
          go_wp2
          go_roundw
          case rel => exact ⟨k + 1, _, by omega, by go_num, rfl, by rw [HS.out], Lib.hid (fun j hj => by
            by_cases e : j = k
            · subst e; omega
            · exact hall.out j (by omega))⟩
          case measure => simp [intOf]; omega
    · obtain rfl : k = n := by omega
      have habv := aboveV_true hy.len hall.out
      have hdur : dur f.times xs ys = durTo f.times xs ys k := by unfold dur; rw [hy.len]
      have HA := Lib.hid habv
      have HDU := Lib.hid hdur
      clear habv hdur
      by_cases hz : durTo f.times xs ys k = 0
      · have hzb : (durTo f.times xs ys k == 0) = true := by simp [hz]
        have HZ := Lib.hid hz
        clear hz
        go_wp2
        go_ret
        exact ⟨ret_int (by rw [stepV, HA.out, HDU.out, HZ.out]; rfl), hg1.drewNR _⟩
      · have hzb : (durTo f.times xs ys k == 0) = false := by simp [hz]
        have HZ := Lib.hid hz
        clear hz
        go_wp2
        go_ret
        exact ⟨ret_int (by rw [stepV, HA.out, HDU.out, if_pos rfl, if_neg HZ.out]), hg1.drewNR _⟩
end Go.Proofs.Ytlilojpnhmfnaaa
