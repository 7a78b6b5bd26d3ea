/- Contracts: checkStates, begin; the reference state. -/
import Derived.Test.YtlilojpnhmfnaaaCheckU
import Derived.Deep.RegionHeld3
namespace Go.Proofs.Ytlilojpnhmfnaaa
open Go.RowKit

theorem chkE_of_true {f : Fl} (h : chkB f = true) : chkE f = 0 := by simp [chkE, h]
theorem chkE_of_false {f : Fl} (h : chkB f = false) : chkE f = 110 := by simp [chkE, h]

/-- the errors of a fleet and states -/
def stsB (T : List (List Int)) (L : List (List Int)) : Bool := (List.range L.length).all fun i => stB T (L[i]?.getD [])
def statesE (f : Fl) (L : List (List Int)) : Int := if chkB f then (if stsB f.times L then 0 else 1) else 110

theorem stsB_at {T L : List (List Int)} {k : Nat} (hk : k < L.length) (h : stB T (L[k]?.getD []) = false) : stsB T L = false := by
  rw [Bool.eq_false_iff]; intro hc
  rw [stsB, List.all_eq_true] at hc
  have := hc k (List.mem_range.2 hk)
  rw [h] at this; cases this
theorem stsB_true {T L : List (List Int)} (h : ∀ j, j < L.length → stB T (L[j]?.getD []) = true) : stsB T L = true := by
  rw [stsB, List.all_eq_true]; intro x hx; exact h x (List.mem_range.1 hx)
theorem statesE_bad {f : Fl} {L : List (List Int)} (h : chkB f = false) : statesE f L = 110 := by simp [statesE, h]
theorem statesE_one {f : Fl} {L : List (List Int)} (h : chkB f = true) {k : Nat} (hk : k < L.length) (hb : stB f.times (L[k]?.getD []) = false) : statesE f L = 1 := by
  simp [statesE, h, stsB_at hk hb]
theorem statesE_ok {f : Fl} {L : List (List Int)} (h : chkB f = true) (hb : ∀ j, j < L.length → stB f.times (L[j]?.getD []) = true) : statesE f L = 0 := by
  simp [statesE, h, stsB_true hb]

set_option maxHeartbeats 2000000 in
theorem checkStates_any (ta ca la : Option Addr) (tn tc cn cc ln lc : Nat) (f : Fl) (L : List (List Int)) (w : World) (hf : FlAt w ta tn ca cn f) (hL : RowsAt w la ln L) :
    Calls Try.prog 54 #[.agg #[.slice ta tn tc, .slice ca cn cc], .slice la ln lc] w fun e w' => e = .returned (.int .i64 (statesE f L)) ∧ Gr w w' := by
  have htn := hf.t.lt
  have hln := hL.lt
  have HT := Lib.hid hf.t.len
  have HL := Lib.hid hL.len
  have hga := Gr.alloc w (.cells #[.slice ta tn tc, .slice ca cn cc] 25)
  have hcon := check_any ta ca tn tc cn cc f _ (hf.gr hga)
  cases hchk : chkB f with
  | false =>
    rw [chkE_of_false hchk] at hcon
    have HCON := Lib.hid hcon
    clear hcon
    go_enter Try.func54, Try.ntmps54
    go_wp2_with (go_at_call 36; refine HCON.out.mono ?_; rintro e w' ⟨rfl, hg⟩)
    go_ret
    exact ⟨ret_int (statesE_bad hchk).symm, hga.trans (by assumption)⟩
  | true =>
    rw [chkE_of_true hchk] at hcon
    have HCON := Lib.hid hcon
    clear hcon
    have hc0 : (w.alloc (.cells #[.slice ta tn tc, .slice ca cn cc] 25)).cell? ⟨w.heap.size, 0, none⟩ = some (.slice ta tn tc) := by simp
    have hc1 : (w.alloc (.cells #[.slice ta tn tc, .slice ca cn cc] 25)).cell? ⟨w.heap.size, 1, none⟩ = some (.slice ca cn cc) := by simp
    have hsz : w.heap.size < (w.alloc (.cells #[.slice ta tn tc, .slice ca cn cc] 25)).heap.size := by simp
    have C0 := Lib.hid hc0
    have C1 := Lib.hid hc1
    have SZ := Lib.hid hsz
    clear hc0 hc1 hsz
    go_enter Try.func54, Try.ntmps54
    go_wp2_with (go_at_call 36; refine HCON.out.mono ?_; rintro e w1 ⟨rfl, hg1⟩)
    have hg1 : Gr (w.alloc (.cells #[.slice ta tn tc, .slice ca cn cc] 25)) w1 := by assumption
    have hc0 := (hg1.cell (p := ⟨w.heap.size, 0, none⟩) SZ.out).trans C0.out
    have hc1 := (hg1.cell (p := ⟨w.heap.size, 1, none⟩) SZ.out).trans C1.out
    have hs1 : w.heap.size < w1.heap.size := Nat.lt_of_lt_of_le SZ.out hg1.size
    have hw1 : Gr w w1 := hga.trans hg1
    clear hga hg1 C0 C1 SZ HCON
    go_loopw [17] (fun i wr => ∃ k : Nat, k ≤ ln ∧ i = .int .i64 k ∧ Gr w1 wr ∧ Hid (∀ j, j < k → stB f.times (L[j]?.getD []) = true)) (fun i _ => ln - (intOf i).toNat)
    case atStart => exact ⟨0, Nat.zero_le _, rfl, Gr.refl _, Lib.hid (by intros; omega)⟩
    case round =>
      obtain ⟨k, hk, rfl, hg, hall⟩ := hrel
      by_cases hlt : k < ln
      · obtain ⟨tt, ra, rn, rc, rfl, htb, htc, hri⟩ := (hL.gr (hw1.trans hg)).at hlt
        have hrl := hri.lt
        have HR := Lib.hid hri.len
        have h0 := (hg.cell (p := ⟨w.heap.size, 0, none⟩) hs1).trans hc0
        have h1 := (hg.cell (p := ⟨w.heap.size, 1, none⟩) hs1).trans hc1
        have hsr : w.heap.size < wr.heap.size := Nat.lt_of_lt_of_le hs1 hg.size
        by_cases hnt : rn = tn
        · have hne : ((rn : Int) != (tn : Int)) = false := by rw [bne_eq_false_iff_eq]; omega
          have HNT := Lib.hid hnt
          clear hnt
          obtain ⟨w2, hw2⟩ : ∃ w2, w2 = wr := ⟨_, rfl⟩
          subst hw2
          go_wp2
          go_loopw [29] (fun i wr => ∃ j : Nat, j ≤ rn ∧ i = .int .i64 j ∧ Gr w2 wr ∧ Hid (∀ c : Nat, c < j → verB f.times c ((L[k]?.getD [])[c]?.getD 0) = true)) (fun i _ => rn - (intOf i).toNat)
          case atStart => exact ⟨0, Nat.zero_le _, rfl, Gr.refl _, Lib.hid (by intros; omega)⟩
          case round =>
            obtain ⟨j, hj, rfl, hgj, hallj⟩ := hrel
            by_cases hltj : j < rn
            · obtain ⟨aa, rfl, hab, hac⟩ := (hri.gr hgj).at hltj
              have g0 := (hgj.cell (p := ⟨w.heap.size, 0, none⟩) hsr).trans h0
              have g1 := (hgj.cell (p := ⟨w.heap.size, 1, none⟩) hsr).trans h1
              have hver := version_any ta ca tn tc cn cc f j ((L[k]?.getD [])[j]?.getD 0) wr (hf.gr ((hw1.trans hg).trans hgj))
              cases hv : verB f.times j ((L[k]?.getD [])[j]?.getD 0) with
              | false =>
                rw [hv] at hver
                have HV := Lib.hid hver
                clear hver
                go_wp2_with (go_at_call 76; refine HV.out.mono ?_; rintro e w3 ⟨rfl, hg3⟩)
                go_ret
                exact ⟨ret_int (statesE_one hchk (k := k) (by rw [HL.out]; exact hlt) (stB_at (k := j) (by rw [HR.out]; exact hltj) hv)).symm, ((hw1.trans hg).trans hgj).trans (by assumption)⟩
              | true =>
                rw [hv] at hver
                have HV := Lib.hid hver
                clear hver
                go_wp2_with (go_at_call 76; refine HV.out.mono ?_; rintro e w3 ⟨rfl, hg3⟩)
                go_roundw
                case rel => exact ⟨j + 1, by omega, by go_num, hgj.trans (by assumption), Lib.hid (fun i hi => by
                  by_cases e : i = j
                  · subst e; exact hv
                  · exact hallj.out i (by omega))⟩
                case measure => simp [intOf]; omega
            · obtain rfl : j = rn := by omega
              go_wp2
              go_roundw
              case rel => exact ⟨k + 1, by omega, by go_num, hg.trans hgj, Lib.hid (fun i hi => by
                by_cases e : i = k
                · subst e; exact stB_true (by rw [HR.out, HT.out]; exact HNT.out) (fun c hc => hallj.out c (by rw [← HR.out]; exact hc))
                · exact hall.out i (by omega))⟩
              case measure => simp [intOf]; omega
        · have hne : ((rn : Int) != (tn : Int)) = true := by rw [bne_iff_ne]; omega
          have HNT := Lib.hid hnt
          clear hnt
          go_wp2
          go_ret
          exact ⟨ret_int (statesE_one hchk (k := k) (by rw [HL.out]; exact hlt) (stB_len (by rw [HR.out, HT.out]; exact HNT.out))).symm, hw1.trans hg⟩
      · obtain rfl : k = ln := by omega
        go_wp2
        go_ret
        exact ⟨ret_int (statesE_ok hchk (fun i hi => hall.out i (by rw [← HL.out]; exact hi))).symm, hw1.trans hg⟩

/-- the errors of a fleet, states and a budget -/
def beginE (f : Fl) (budget : Int) (L : List (List Int)) : Int := if statesE f L = 0 then (if withinB budget 0 1000000 then 0 else 1) else statesE f L

set_option maxHeartbeats 2000000 in
theorem begin_any (ta ca la : Option Addr) (tn tc cn cc ln lc : Nat) (f : Fl) (budget : Int) (L : List (List Int)) (w : World) (hf : FlAt w ta tn ca cn f) (hL : RowsAt w la ln L) :
    Calls Try.prog 47 #[.agg #[.slice ta tn tc, .slice ca cn cc], .int .i64 budget, .slice la ln lc] w fun e w' => e = .returned (.int .i64 (beginE f budget L)) ∧ Gr w w' := by
  have hga := Gr.alloc w (.cells #[.slice ta tn tc, .slice ca cn cc] 25)
  have hcon := Lib.hid (checkStates_any ta ca la tn tc cn cc ln lc f L _ (hf.gr hga) (hL.gr hga))
  by_cases hz : statesE f L = 0
  · have hzb : (statesE f L != 0) = false := by simp [hz]
    have HZ := Lib.hid hz
    clear hz
    cases hb : withinB budget 0 1000000 with
    | true =>
      go_enter Try.func47, Try.ntmps47
      go_wp2_with (first | (go_at_call 54; refine hcon.out.mono ?_; rintro e w' ⟨rfl, hg⟩) | (go_at_call 61; refine (within_any _ _ _ _).mono ?_; rintro e w' ⟨rfl, rfl⟩))
      go_ret
      exact ⟨ret_int (by simp [beginE, HZ.out, hb]), hga.trans (by assumption)⟩
    | false =>
      go_enter Try.func47, Try.ntmps47
      go_wp2_with (first | (go_at_call 54; refine hcon.out.mono ?_; rintro e w' ⟨rfl, hg⟩) | (go_at_call 61; refine (within_any _ _ _ _).mono ?_; rintro e w' ⟨rfl, rfl⟩))
      go_ret
      exact ⟨ret_int (by simp [beginE, HZ.out, hb]), hga.trans (by assumption)⟩
  · have hzb : (statesE f L != 0) = true := by simp [hz]
    have HZ := Lib.hid hz
    clear hz
    go_enter Try.func47, Try.ntmps47
    go_wp2_with (first | (go_at_call 54; refine hcon.out.mono ?_; rintro e w' ⟨rfl, hg⟩) | (go_at_call 61; refine (within_any _ _ _ _).mono ?_; rintro e w' ⟨rfl, rfl⟩))
    go_ret
    exact ⟨ret_int (by simp [beginE, HZ.out]), hga.trans (by assumption)⟩

set_option maxHeartbeats 2000000 in
theorem state_any (ta ca a : Option Addr) (tn tc cn cc n c : Nat) (f : Fl) (s : List Int) (w : World) (hf : FlAt w ta tn ca cn f) (hs : Ints w a n s) :
    Calls Try.prog 67 #[.agg #[.slice ta tn tc, .slice ca cn cc], .slice a n c] w fun e w' => e = .returned (.bool (stB f.times s)) ∧ Gr w w' := by
  have htn := hf.t.lt
  have hn := hs.lt
  have HT := Lib.hid hf.t.len
  have HS := Lib.hid hs.len
  by_cases hnt : n = tn
  · have hne : ((n : Int) != (tn : Int)) = false := by rw [bne_eq_false_iff_eq]; omega
    have HNT := Lib.hid hnt
    clear hnt
    go_enter Try.func67, Try.ntmps67
    go_wp2
    obtain ⟨w1, hw1⟩ : ∃ w1, w.alloc (.cells #[.slice ta tn tc, .slice ca cn cc] 25) = w1 := ⟨_, rfl⟩
    have hg1 : Gr w w1 := by rw [← hw1]; exact Gr.alloc _ _
    have hc0 : w1.cell? ⟨w.heap.size, 0, none⟩ = some (.slice ta tn tc) := by rw [← hw1]; simp
    have hc1 : w1.cell? ⟨w.heap.size, 1, none⟩ = some (.slice ca cn cc) := by rw [← hw1]; simp
    have hs1 : w.heap.size < w1.heap.size := by rw [← hw1]; simp
    rw [hw1]
    clear hw1
    go_loopw [5] (fun i wr => ∃ k : Nat, k ≤ n ∧ i = .int .i64 k ∧ Gr w1 wr ∧ Hid (∀ j : Nat, j < k → verB f.times j (s[j]?.getD 0) = true)) (fun i _ => n - (intOf i).toNat)
    case atStart => exact ⟨0, Nat.zero_le _, rfl, Gr.refl _, Lib.hid (by intros; omega)⟩
    case round =>
      obtain ⟨k, hk, rfl, hg, hall⟩ := hrel
      by_cases hlt : k < n
      · obtain ⟨aa, rfl, hab, hac⟩ := (hs.gr (hg1.trans hg)).at hlt
        have h0 := (hg.cell (p := ⟨w.heap.size, 0, none⟩) hs1).trans hc0
        have h1 := (hg.cell (p := ⟨w.heap.size, 1, none⟩) hs1).trans hc1
        have hfr := hf.gr (hg1.trans hg)
        have hsr : w.heap.size < wr.heap.size := Nat.lt_of_lt_of_le hs1 hg.size
        have hsa : (aa.add k).block < wr.heap.size := by rw [add_block]; exact hab
        cases hv : verB f.times k (s[k]?.getD 0) with
        | false =>
          go_wp2
          go_region_held3 (fun w' => w'.cell? ⟨w.heap.size, 0, none⟩ = some (.slice ta tn tc) ∧ w'.cell? ⟨w.heap.size, 1, none⟩ = some (.slice ca cn cc) ∧ w'.cell? (aa.add k) = some (.int .i64 (s[k]?.getD 0))) (first | go_keep | exact ⟨by assumption, by assumption, by assumption⟩)
            (first | (go_at_call 77; refine (version2_any _ _ _ _ _ _ f _ _ _ (hfr.gr (Gr.drew _))).mono ?_; rintro e w' ⟨rfl, hg2⟩; have s0 := (hg2.cell (p := ⟨w.heap.size, 0, none⟩) hsr).trans h0; have s1 := (hg2.cell (p := ⟨w.heap.size, 1, none⟩) hsr).trans h1; have s2 := (hg2.cell (p := aa.add k) hsa).trans hac))
          go_wp2
          go_ret
          exact ⟨ret_bool (stB_at (k := k) (by rw [HS.out]; exact hlt) hv).symm, (hg1.trans hg).trans ((Gr.drew _).trans (by assumption))⟩
        | true =>
          go_wp2
          go_region_held3 (fun w' => w'.cell? ⟨w.heap.size, 0, none⟩ = some (.slice ta tn tc) ∧ w'.cell? ⟨w.heap.size, 1, none⟩ = some (.slice ca cn cc) ∧ w'.cell? (aa.add k) = some (.int .i64 (s[k]?.getD 0))) (first | go_keep | exact ⟨by assumption, by assumption, by assumption⟩)
            (first | (go_at_call 77; refine (version2_any _ _ _ _ _ _ f _ _ _ (hfr.gr (Gr.drew _))).mono ?_; rintro e w' ⟨rfl, hg2⟩; have s0 := (hg2.cell (p := ⟨w.heap.size, 0, none⟩) hsr).trans h0; have s1 := (hg2.cell (p := ⟨w.heap.size, 1, none⟩) hsr).trans h1; have s2 := (hg2.cell (p := aa.add k) hsa).trans hac))
          go_wp2
          go_roundw
          case rel => exact ⟨k + 1, by omega, by go_num, hg.trans ((Gr.drew _).trans (by assumption)), Lib.hid (fun j hj => by
            by_cases e : j = k
            · subst e; exact hv
            · exact hall.out j (by omega))⟩
          case measure => simp [intOf]; omega
      · obtain rfl : k = n := by omega
        go_wp2
        go_ret
        exact ⟨ret_bool (stB_true (by rw [HS.out, HT.out]; exact HNT.out) (fun c hc => hall.out c (by rw [← HS.out]; exact hc))).symm, hg1.trans hg⟩
  · have hne : ((n : Int) != (tn : Int)) = true := by rw [bne_iff_ne]; omega
    have HNT := Lib.hid hnt
    clear hnt
    go_enter Try.func67, Try.ntmps67
    go_wp2
    go_ret
    exact ⟨ret_bool (stB_len (by rw [HS.out, HT.out]; exact HNT.out)).symm, Gr.alloc _ _⟩
end Go.Proofs.Ytlilojpnhmfnaaa
