/- Contract: timesOf, at a plan that holds. -/
import Derived.Test.YtlilojpnhmfnaaaLawS
namespace Go.Proofs.Ytlilojpnhmfnaaa
open Go.RowKit

def pAt (xs : List Int) (L : List (List Int)) (j : Nat) : List Int := (xs :: L)[j]?.getD []
def planTo (T : List (List Int)) (xs : List Int) (L : List (List Int)) : Nat → Int
  | 0 => 0
  | k + 1 => planTo T xs L k + dur T (pAt xs L k) (pAt xs L (k + 1))
theorem planTo_cons (T : List (List Int)) (xs s : List Int) (r : List (List Int)) : ∀ k, planTo T xs (s :: r) (k + 1) = dur T xs s + planTo T s r k := by
  intro k
  induction k with
  | zero => simp [planTo, pAt]
  | succ k ih => rw [planTo, ih]; simp only [planTo, pAt, List.getElem?_cons_succ]; omega
theorem planTo_all (T : List (List Int)) : ∀ (L : List (List Int)) (xs : List Int), planTo T xs L L.length = planTime T xs L := by
  intro L
  induction L with
  | nil => intro xs; rfl
  | cons s r ih => intro xs; rw [List.length_cons, planTo_cons, ih]; rfl
theorem okPlan_at {f : Fl} {bu : Int} : ∀ (L : List (List Int)) (xs : List Int), okPlan f bu xs L → ∀ k, k < L.length → aboveV (pAt xs L (k + 1)) (pAt xs L k) = true := by
  intro L
  induction L with
  | nil => intro xs _ k hk; simp at hk
  | cons s r ih =>
    intro xs h k hk
    cases k with
    | zero => simpa [pAt] using (stepsB_true h.2.1).1
    | succ k => have := ih s h.2.2 k (by simpa using hk); simpa [pAt] using this

structure PlOk (f : Fl) (bu : Int) (xs : List Int) (L : List (List Int)) : Prop where
  ok : FlOk f
  a : StOk f xs
  l : ∀ j, j < L.length → StOk f (L[j]?.getD [])
  pl : okPlan f bu xs L
  n64 : L.length ≤ 64
theorem PlOk.at {f : Fl} {bu : Int} {xs : List Int} {L : List (List Int)} (h : PlOk f bu xs L) {k : Nat} (hk : k ≤ L.length) : StOk f (pAt xs L k) := by
  cases k with
  | zero => simpa [pAt] using h.a
  | succ k => simpa [pAt] using h.l k (by omega)
theorem PlOk.le {f : Fl} {bu : Int} {xs : List Int} {L : List (List Int)} (h : PlOk f bu xs L) {k : Nat} (hk : k < L.length) : ∀ c, c < f.times.length → (pAt xs L k)[c]?.getD 0 ≤ (pAt xs L (k + 1))[c]?.getD 0 :=
  fun c hc => aboveV_le (okPlan_at L xs h.pl k hk) c (by rw [(h.at (k := k + 1) (by omega)).len]; exact hc)
theorem PlOk.bd {f : Fl} {bu : Int} {xs : List Int} {L : List (List Int)} (h : PlOk f bu xs L) : ∀ k, k ≤ L.length → 0 ≤ planTo f.times xs L k ∧ planTo f.times xs L k ≤ 60000 * k := by
  intro k
  induction k with
  | zero => intro _; simp [planTo]
  | succ k ih =>
    intro hk
    have h1 := ih (by omega)
    have hs := h.at (k := k + 1) (by omega)
    have h2 := durTo_bd h.ok (fun c hc => ((h.at (k := k) (by omega)).ver c hc).1) hs (h.le (k := k) (by omega)) f.times.length (Nat.le_refl _)
    have h6 := h.ok.n6
    simp only [planTo, dur]
    rw [hs.len]
    omega

set_option maxRecDepth 100000 in
set_option maxHeartbeats 4000000 in
theorem timesOf_any (ta ca a pa : Option Addr) (tn tc cn cc n c pn pc : Nat) (f : Fl) (xs : List Int) (L : List (List Int)) (bu : Int) (w : World) (hf : FlAt w ta tn ca cn f) (hx : Ints w a n xs) (hL : RowsAt w pa pn L) (hp : PlOk f bu xs L) :
    Calls Try.prog 24 #[.agg #[.slice ta tn tc, .slice ca cn cc], .slice a n c, .slice pa pn pc] w fun e w' => e = .returned (.int .i64 (planTime f.times xs L)) ∧ Gr w w' := by
  have HP := Lib.hid hp
  have hpl := hL.lt
  have HLL := Lib.hid hL.len
  have htn : tn = f.times.length := hf.t.len.symm
  have HT := Lib.hid htn
  have h6 : tn ≤ 6 := by have := hp.ok.n6; omega
  have h64 : pn ≤ 64 := by have := hp.n64; have := hL.len; omega
  clear htn hp
  go_enter Try.func24, Try.ntmps24
  go_wp2
  obtain ⟨w1, hw1⟩ : ∃ w1, w.alloc (.cells #[.slice ta tn tc, .slice ca cn cc] 25) = w1 := ⟨_, rfl⟩
  have hg1 : Gr w w1 := by rw [← hw1]; exact Gr.alloc _ _
  have hc0 : w1.cell? ⟨w.heap.size, 0, none⟩ = some (.slice ta tn tc) := by rw [← hw1]; simp
  rw [hw1]
  clear hw1
  have hft := hf.t.gr hg1
  have hL1 := hL.gr hg1
  go_loop [7, 8, 9] (fun t p i => ∃ (k : Nat) (sa : Option Addr) (sn sc : Nat), k ≤ pn ∧ i = .int .i64 k ∧ p = .slice sa sn sc ∧ t = .int .i64 (planTo f.times xs L k) ∧ Hid (Ints w1 sa sn (pAt xs L k))) (fun _ _ i => pn - (intOf i).toNat)
  case atStart => exact ⟨0, a, n, c, Nat.zero_le _, rfl, rfl, rfl, Lib.hid (by simpa [pAt] using hx.gr hg1)⟩
  case round =>
    obtain ⟨k, sa, sn, sc, hk, rfl, rfl, rfl, hi⟩ := hrel
    have hkL : k ≤ L.length := by rw [HLL.out]; exact hk
    have hst := HP.out.at hkL
    obtain rfl : sn = tn := by rw [← hi.out.len, hst.len, HT.out]
    have hbk := HP.out.bd k hkL
    have HST := Lib.hid hst
    clear hst
    by_cases hlt : k < pn
    · obtain ⟨pp, ra, rn, rc, rfl, hpb, hpc, hri⟩ := hL1.at hlt
      have hsy := HP.out.at (k := k + 1) (by rw [HLL.out]; exact hlt)
      have hry : pAt xs L (k + 1) = L[k]?.getD [] := by simp [pAt]
      have hri2 : Ints w1 ra rn (pAt xs L (k + 1)) := by rw [hry]; exact hri
      obtain rfl : rn = sn := by rw [← hri2.len, hsy.len, HT.out]
      have hle := HP.out.le (k := k) (by rw [HLL.out]; exact hlt)
      have HLE := Lib.hid hle
      have HSY := Lib.hid hsy
      have HBD := Lib.hid (durTo_bd HP.out.ok (fun c hc => (HST.out.ver c hc).1) hsy hle)
      have HNX : Hid (planTo f.times xs L (k + 1) = planTo f.times xs L k + durTo f.times (pAt xs L k) (pAt xs L (k + 1)) rn) := Lib.hid (by rw [planTo, dur, hsy.len, HT.out])
      clear hle hsy hry hri
      go_wp2
      generalize hP : planTo f.times xs L k = P0 at *
      generalize hA : pAt xs L k = A at *
      generalize hB : pAt xs L (k + 1) = B at *
      go_loop [7, 10] (fun t i => ∃ j : Nat, j ≤ rn ∧ i = .int .i64 j ∧ t = .int .i64 (P0 + durTo f.times A B j)) (fun _ i => rn - (intOf i).toNat)
      case atStart => exact ⟨0, Nat.zero_le _, rfl, by simp [durTo]⟩
      case round =>
        obtain ⟨j, hj, rfl, rfl⟩ := hrel
        have hb := HBD.out j (by rw [← HT.out]; exact hj)
        by_cases hlj : j < rn
        · obtain ⟨aa, rfl, hab, hac⟩ := hi.out.at hlj
          obtain ⟨bb, rfl, hbb, hbc⟩ := hri2.at hlj
          by_cases hc : B[j]?.getD 0 = A[j]?.getD 0
          · have hcb : (B[j]?.getD 0 != A[j]?.getD 0) = false := by simp [hc]
            have HC := Lib.hid hc
            clear hc
            go_wp2
            go_round
            case rel => exact ⟨j + 1, by omega, by go_num, by simp [durTo, HC.out]⟩
            case measure => simp [intOf]; omega
          · have hcb : (B[j]?.getD 0 != A[j]?.getD 0) = true := by simp [hc]
            obtain ⟨tt, qa, qn, qc, rfl, htb, htc, hqi⟩ := hft.at (j := j) hlj
            have hkl : j < f.times.length := by rw [← HT.out]; exact hlj
            have hv0 := (HST.out.ver j hkl).1
            have hvl := HLE.out j hkl
            have hv1 : 1 ≤ B[j]?.getD 0 := by omega
            have hv3 := (HSY.out.ver j hkl).2
            have hql := hqi.len
            have hv4 : B[j]?.getD 0 ≤ qn := by omega
            have hv2 : B[j]?.getD 0 - 1 < qn := by omega
            have htm := tm_bd HP.out.ok hkl hv1 hv3
            have HS : Hid (durTo f.times A B (j + 1) = durTo f.times A B j + tm f.times j (B[j]?.getD 0)) := Lib.hid (by simp [durTo, hc])
            have hrl := hqi.lt
            obtain ⟨rr, rfl, hrb, hrc⟩ := hqi.at (j := (B[j]?.getD 0).toNat - 1) (by omega)
            have hrc' : w1.cell? (rr.add ((B[j]?.getD 0).toNat - 1)) = some (.int .i64 (tm f.times j (B[j]?.getD 0))) := hrc
            clear hc hrc hv0 hvl hv3 hql
            go_wp2
            go_round
            case rel => exact ⟨j + 1, by omega, by go_num, by rw [HS.out, Int.add_assoc]⟩
            case measure => simp [intOf]; omega
        · obtain rfl : j = rn := by omega
          go_wp2
          go_round
          case rel => exact ⟨k + 1, ra, j, rc, by omega, by go_num, rfl, by rw [HNX.out], Lib.hid (by rw [hB]; exact hri2)⟩
          case measure => simp [intOf]; omega
    · obtain rfl : k = pn := by omega
      go_wp2
      go_ret
      exact ⟨ret_int (by rw [← planTo_all, HLL.out]), hg1⟩
end Go.Proofs.Ytlilojpnhmfnaaa
