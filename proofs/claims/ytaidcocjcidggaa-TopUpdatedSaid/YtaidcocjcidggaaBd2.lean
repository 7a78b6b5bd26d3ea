/- Several texts of this claim in one file. (1) Contracts: checkStates, begin; the reference state. (2) Contract: the reference Check. (3) Contracts of duration and of the reference step. (4) Contracts: stated, planned, steps, large. (5) Contract: slices.Clone of numbers. (6) A rule for a range over a function at the outermost level of a function, and words for what a call leaves as it was. Nothing of the program is proved here. (7) The closure of states: its leaf. (8) The closure of states: appending in place. (9) Values of the operations of a region that are known ahead. Nothing of the program is proved here. (10) The closure of states: one step. (11) The closure of states: one step. (12) The closures of states: all of them. (13) The closures of states: the iterator. (14) Contract: states makes its iterator. (15) A rule for a range over states. -/
import Derived.Test.YtaidcocjcidggaaBd1
import Derived.Deep.RegionHeld3
import Derived.WalkSpells
import Derived.RangeFuncSeq
import Derived.Laws.EntriesVeiled
import Derived.RangeFuncBound
import Derived.Shelf.Abstract
namespace Go.Proofs.Ytaidcocjcidggaa
set_option linter.unusedSimpArgs false
set_option linter.unusedVariables false
section
open Go.RowKit

theorem chkE_of_true {f : Fl} (h : chkB f = true) : chkE f = 0 := by simp [chkE, h]
theorem chkE_of_false {f : Fl} (h : chkB f = false) : chkE f = 110 := by simp [chkE, h]

/-- the errors of a fleet and states -/
def stsB (T : List (List Int)) (L : List (List Int)) : Bool := (List.range L.length).all fun i => stB T (L[i]?.getD [])
def statesE (f : Fl) (L : List (List Int)) : Int := if chkB f then (if stsB f.times L then 0 else 1) else 110

theorem stsB_at {T L : List (List Int)} {k : Nat} (hk : k < L.length) (h : stB T (L[k]?.getD []) = false) : stsB T L = false := by
  rw [Bool.eq_false_iff]; intro hc
  rw [stsB, List.all_eq_true] at hc
  have := hc k (List.mem_range.2 hk)
  rw [h] at this; cases this
theorem stsB_true {T L : List (List Int)} (h : ∀ j, j < L.length → stB T (L[j]?.getD []) = true) : stsB T L = true := by
  rw [stsB, List.all_eq_true]; intro x hx; exact h x (List.mem_range.1 hx)
theorem statesE_bad {f : Fl} {L : List (List Int)} (h : chkB f = false) : statesE f L = 110 := by simp [statesE, h]
theorem statesE_one {f : Fl} {L : List (List Int)} (h : chkB f = true) {k : Nat} (hk : k < L.length) (hb : stB f.times (L[k]?.getD []) = false) : statesE f L = 1 := by
  simp [statesE, h, stsB_at hk hb]
theorem statesE_ok {f : Fl} {L : List (List Int)} (h : chkB f = true) (hb : ∀ j, j < L.length → stB f.times (L[j]?.getD []) = true) : statesE f L = 0 := by
  simp [statesE, h, stsB_true hb]

set_option maxHeartbeats 2000000 in
theorem checkStates_any (ta ca la : Option Addr) (tn tc cn cc ln lc : Nat) (f : Fl) (L : List (List Int)) (w : World) (hf : FlAt w ta tn ca cn f) (hL : RowsAt w la ln L) :
    Calls Try.prog 57 #[.agg #[.slice ta tn tc, .slice ca cn cc], .slice la ln lc] w fun e w' => e = .returned (.int .i64 (statesE f L)) ∧ Gr w w' := by
  have htn := hf.t.lt
  have hln := hL.lt
  have HT := Lib.hid hf.t.len
  have HL := Lib.hid hL.len
  have hga := Gr.alloc w (.cells #[.slice ta tn tc, .slice ca cn cc] 25)
  have hcon := check_any ta ca tn tc cn cc f _ (hf.gr hga)
  cases hchk : chkB f with
  | false =>
    rw [chkE_of_false hchk] at hcon
    have HCON := Lib.hid hcon
    clear hcon
    go_enter Try.func57, Try.ntmps57
    go_wp2_with (go_at_call 36; refine HCON.out.mono ?_; rintro e w' ⟨rfl, hg⟩)
    go_ret
    exact ⟨ret_int (statesE_bad hchk).symm, hga.trans (by assumption)⟩
  | true =>
    rw [chkE_of_true hchk] at hcon
    have HCON := Lib.hid hcon
    clear hcon
    have hc0 : (w.alloc (.cells #[.slice ta tn tc, .slice ca cn cc] 25)).cell? ⟨w.heap.size, 0, none⟩ = some (.slice ta tn tc) := by simp
    have hc1 : (w.alloc (.cells #[.slice ta tn tc, .slice ca cn cc] 25)).cell? ⟨w.heap.size, 1, none⟩ = some (.slice ca cn cc) := by simp
    have hsz : w.heap.size < (w.alloc (.cells #[.slice ta tn tc, .slice ca cn cc] 25)).heap.size := by simp
    have C0 := Lib.hid hc0
    have C1 := Lib.hid hc1
    have SZ := Lib.hid hsz
    clear hc0 hc1 hsz
    go_enter Try.func57, Try.ntmps57
    go_wp2_with (go_at_call 36; refine HCON.out.mono ?_; rintro e w1 ⟨rfl, hg1⟩)
    have hg1 : Gr (w.alloc (.cells #[.slice ta tn tc, .slice ca cn cc] 25)) w1 := by assumption
    have hc0 := (hg1.cell (p := ⟨w.heap.size, 0, none⟩) SZ.out).trans C0.out
    have hc1 := (hg1.cell (p := ⟨w.heap.size, 1, none⟩) SZ.out).trans C1.out
    have hs1 : w.heap.size < w1.heap.size := Nat.lt_of_lt_of_le SZ.out hg1.size
    have hw1 : Gr w w1 := hga.trans hg1
    clear hga hg1 C0 C1 SZ HCON
    go_loopw [17] (fun i wr => ∃ k : Nat, k ≤ ln ∧ i = .int .i64 k ∧ Gr w1 wr ∧ Hid (∀ j, j < k → stB f.times (L[j]?.getD []) = true)) (fun i _ => ln - (intOf i).toNat)
    case atStart => exact ⟨0, Nat.zero_le _, rfl, Gr.refl _, Lib.hid (by intros; omega)⟩
    case round =>
      obtain ⟨k, hk, rfl, hg, hall⟩ := hrel
      by_cases hlt : k < ln
      · obtain ⟨tt, ra, rn, rc, rfl, htb, htc, hri⟩ := (hL.gr (hw1.trans hg)).at hlt
        have hrl := hri.lt
        have HR := Lib.hid hri.len
        have h0 := (hg.cell (p := ⟨w.heap.size, 0, none⟩) hs1).trans hc0
        have h1 := (hg.cell (p := ⟨w.heap.size, 1, none⟩) hs1).trans hc1
        have hsr : w.heap.size < wr.heap.size := Nat.lt_of_lt_of_le hs1 hg.size
        by_cases hnt : rn = tn
        · have hne : ((rn : Int) != (tn : Int)) = false := by rw [bne_eq_false_iff_eq]; omega
          have HNT := Lib.hid hnt
          clear hnt
          obtain ⟨w2, hw2⟩ : ∃ w2, w2 = wr := ⟨_, rfl⟩
          subst hw2
          go_wp2
          go_loopw [29] (fun i wr => ∃ j : Nat, j ≤ rn ∧ i = .int .i64 j ∧ Gr w2 wr ∧ Hid (∀ c : Nat, c < j → verB f.times c ((L[k]?.getD [])[c]?.getD 0) = true)) (fun i _ => rn - (intOf i).toNat)
          case atStart => exact ⟨0, Nat.zero_le _, rfl, Gr.refl _, Lib.hid (by intros; omega)⟩
          case round =>
            obtain ⟨j, hj, rfl, hgj, hallj⟩ := hrel
            by_cases hltj : j < rn
            · obtain ⟨aa, rfl, hab, hac⟩ := (hri.gr hgj).at hltj
              have g0 := (hgj.cell (p := ⟨w.heap.size, 0, none⟩) hsr).trans h0
              have g1 := (hgj.cell (p := ⟨w.heap.size, 1, none⟩) hsr).trans h1
              have hver := version_any ta ca tn tc cn cc f j ((L[k]?.getD [])[j]?.getD 0) wr (hf.gr ((hw1.trans hg).trans hgj))
              cases hv : verB f.times j ((L[k]?.getD [])[j]?.getD 0) with
              | false =>
                rw [hv] at hver
                have HV := Lib.hid hver
                clear hver
                go_wp2_with (go_at_call 79; refine HV.out.mono ?_; rintro e w3 ⟨rfl, hg3⟩)
                go_ret
                exact ⟨ret_int (statesE_one hchk (k := k) (by rw [HL.out]; exact hlt) (stB_at (k := j) (by rw [HR.out]; exact hltj) hv)).symm, ((hw1.trans hg).trans hgj).trans (by assumption)⟩
              | true =>
                rw [hv] at hver
                have HV := Lib.hid hver
                clear hver
                go_wp2_with (go_at_call 79; refine HV.out.mono ?_; rintro e w3 ⟨rfl, hg3⟩)
                go_roundw
                case rel => exact ⟨j + 1, by omega, by go_num, hgj.trans (by assumption), Lib.hid (fun i hi => by
                  by_cases e : i = j
                  · subst e; exact hv
                  · exact hallj.out i (by omega))⟩
                case measure => simp [intOf]; omega
            · obtain rfl : j = rn := by omega
              go_wp2
              go_roundw
              case rel => exact ⟨k + 1, by omega, by go_num, hg.trans hgj, Lib.hid (fun i hi => by
                by_cases e : i = k
                · subst e; exact stB_true (by rw [HR.out, HT.out]; exact HNT.out) (fun c hc => hallj.out c (by rw [← HR.out]; exact hc))
                · exact hall.out i (by omega))⟩
              case measure => simp [intOf]; omega
        · have hne : ((rn : Int) != (tn : Int)) = true := by rw [bne_iff_ne]; omega
          have HNT := Lib.hid hnt
          clear hnt
          go_wp2
          go_ret
          exact ⟨ret_int (statesE_one hchk (k := k) (by rw [HL.out]; exact hlt) (stB_len (by rw [HR.out, HT.out]; exact HNT.out))).symm, hw1.trans hg⟩
      · obtain rfl : k = ln := by omega
        go_wp2
        go_ret
        exact ⟨ret_int (statesE_ok hchk (fun i hi => hall.out i (by rw [← HL.out]; exact hi))).symm, hw1.trans hg⟩

/-- the errors of a fleet, states and a budget -/
def beginE (f : Fl) (budget : Int) (L : List (List Int)) : Int := if statesE f L = 0 then (if withinB budget 0 1000000 then 0 else 1) else statesE f L

set_option maxHeartbeats 2000000 in
theorem begin_any (ta ca la : Option Addr) (tn tc cn cc ln lc : Nat) (f : Fl) (budget : Int) (L : List (List Int)) (w : World) (hf : FlAt w ta tn ca cn f) (hL : RowsAt w la ln L) :
    Calls Try.prog 50 #[.agg #[.slice ta tn tc, .slice ca cn cc], .int .i64 budget, .slice la ln lc] w fun e w' => e = .returned (.int .i64 (beginE f budget L)) ∧ Gr w w' := by
  have hga := Gr.alloc w (.cells #[.slice ta tn tc, .slice ca cn cc] 25)
  have hcon := Lib.hid (checkStates_any ta ca la tn tc cn cc ln lc f L _ (hf.gr hga) (hL.gr hga))
  by_cases hz : statesE f L = 0
  · have hzb : (statesE f L != 0) = false := by simp [hz]
    have HZ := Lib.hid hz
    clear hz
    cases hb : withinB budget 0 1000000 with
    | true =>
      go_enter Try.func50, Try.ntmps50
      go_wp2_with (first | (go_at_call 57; refine hcon.out.mono ?_; rintro e w' ⟨rfl, hg⟩) | (go_at_call 64; refine (within_any _ _ _ _).mono ?_; rintro e w' ⟨rfl, rfl⟩))
      go_ret
      exact ⟨ret_int (by simp [beginE, HZ.out, hb]), hga.trans (by assumption)⟩
    | false =>
      go_enter Try.func50, Try.ntmps50
      go_wp2_with (first | (go_at_call 57; refine hcon.out.mono ?_; rintro e w' ⟨rfl, hg⟩) | (go_at_call 64; refine (within_any _ _ _ _).mono ?_; rintro e w' ⟨rfl, rfl⟩))
      go_ret
      exact ⟨ret_int (by simp [beginE, HZ.out, hb]), hga.trans (by assumption)⟩
  · have hzb : (statesE f L != 0) = true := by simp [hz]
    have HZ := Lib.hid hz
    clear hz
    go_enter Try.func50, Try.ntmps50
    go_wp2_with (first | (go_at_call 57; refine hcon.out.mono ?_; rintro e w' ⟨rfl, hg⟩) | (go_at_call 64; refine (within_any _ _ _ _).mono ?_; rintro e w' ⟨rfl, rfl⟩))
    go_ret
    exact ⟨ret_int (by simp [beginE, HZ.out]), hga.trans (by assumption)⟩
end
section
open Go.RowKit
end
section
open Go.RowKit

set_option maxHeartbeats 400000 in
theorem duration_any (ta ca a b : Option Addr) (tn tc cn cc n c d : Nat) (f : Fl) (xs ys : List Int) (w : World) (hf : FlAt w ta tn ca cn f) (hok : FlOk f)
    (hx : Ints w a n xs) (hy : Ints w b n ys) (h0 : ∀ c, c < f.times.length → 0 ≤ xs[c]?.getD 0) (hs : StOk f ys) (hle : ∀ c, c < f.times.length → xs[c]?.getD 0 ≤ ys[c]?.getD 0) :
    Calls Try.prog 61 #[.agg #[.slice ta tn tc, .slice ca cn cc], .slice a n c, .slice b n d] w fun e w' => e = .returned (.int .i64 (dur f.times xs ys)) ∧ Gr w w' := by
  have hn := hx.lt
  have hlen : n = f.times.length := by rw [← hs.len, hy.len]
  have htn : tn = f.times.length := hf.t.len.symm
  have hbd := durTo_bd hok h0 hs hle
  have HL := Lib.hid hlen
  have HT := Lib.hid htn
  have HB := Lib.hid hbd
  have h6 : n ≤ 6 := by have := hok.n6; omega
  clear hlen htn hbd
  go_enter Try.func61, Try.ntmps61
  go_wp2

  obtain ⟨w1, hw1⟩ : ∃ w1, w.alloc (.cells #[.slice ta tn tc, .slice ca cn cc] 25) = w1 := ⟨_, rfl⟩
  have hg1 : Gr w w1 := by rw [← hw1]; exact Gr.alloc _ _
  have hc0 : w1.cell? ⟨w.heap.size, 0, none⟩ = some (.slice ta tn tc) := by rw [← hw1]; simp
  rw [hw1]
  clear hw1
  go_loop [6, 11] (fun t i => ∃ k : Nat, k ≤ n ∧ i = .int .i64 k ∧ t = .int .i64 (durTo f.times xs ys k)) (fun _ i => n - (intOf i).toNat)
  case atStart => exact ⟨0, Nat.zero_le _, rfl, rfl⟩
  case round =>
    obtain ⟨k, hk, rfl, rfl⟩ := hrel
    by_cases hlt : k < n
    · obtain ⟨aa, rfl, hab, hac⟩ := (hx.gr hg1).at hlt
      obtain ⟨bb, rfl, hbb, hbc⟩ := (hy.gr hg1).at hlt
      have hb := HB.out k (by have := HL.out; omega)
      by_cases hc : ys[k]?.getD 0 = xs[k]?.getD 0
      · have hcb : (ys[k]?.getD 0 != xs[k]?.getD 0) = false := by simp [hc]
        have HC := Lib.hid hc
        clear hc
        go_wp2
        go_round
        case rel => exact ⟨k + 1, by omega, by go_num, by simp [durTo, HC.out]⟩
        case measure => simp [intOf]; omega
      · have hcb : (ys[k]?.getD 0 != xs[k]?.getD 0) = true := by simp [hc]
        obtain ⟨tt, ra, rn, rc, rfl, htb, htc, hri⟩ := (hf.t.gr hg1).at (j := k) (by have := HL.out; have := HT.out; omega)
        have hkl : k < f.times.length := by have := HL.out; omega
        have hktn : k < tn := by have := HT.out; omega
        have hv1 : 1 ≤ ys[k]?.getD 0 := by have := h0 k hkl; have := hle k hkl; omega
        have hv2 : ys[k]?.getD 0 - 1 < rn := by have := (hs.ver k hkl).2; have := hri.len; omega
        have htm := tm_bd hok hkl hv1 (by have := (hs.ver k hkl).2; omega)
        have hsn : durTo f.times xs ys (k + 1) = durTo f.times xs ys k + tm f.times k (ys[k]?.getD 0) := by simp [durTo, hc]
        have hrl := hri.lt
        have HS := Lib.hid hsn
        obtain ⟨rr, rfl, hrb, hrc⟩ := hri.at (j := (ys[k]?.getD 0).toNat - 1) (by omega)
        have hrc' : w1.cell? (rr.add ((ys[k]?.getD 0).toNat - 1)) = some (.int .i64 (tm f.times k (ys[k]?.getD 0))) := hrc
        clear hc hsn hrc
        go_wp2
        go_round
        case rel => exact ⟨k + 1, by omega, by go_num, by rw [HS.out]⟩
        case measure => simp [intOf]; omega
    · obtain rfl : k = n := by omega
      go_wp2
      go_ret
      exact ⟨ret_int (by unfold dur; rw [hy.len]), hg1⟩
end
section
open Go.RowKit

theorem rows2 {w : World} {B : Nat} {a b : Option Addr} {n c m d : Nat} {xs ys : List Int} (hB : B < w.heap.size) (h0 : w.cell? ⟨B, 0, none⟩ = some (.slice a n c)) (h1 : w.cell? ⟨B, 1, none⟩ = some (.slice b m d))
    (hx : Ints w a n xs) (hy : Ints w b m ys) : RowsAt w (some ⟨B, 0, none⟩) 2 [xs, ys] := by
  refine ⟨rfl, by omega, fun j hj => ?_⟩
  match j, hj with
  | 0, _ => exact ⟨_, a, n, c, rfl, hB, h0, hx⟩
  | 1, _ => exact ⟨_, b, m, d, rfl, hB, h1, hy⟩
theorem rows1 {w : World} {B : Nat} {a : Option Addr} {n c : Nat} {xs : List Int} (hB : B < w.heap.size) (h0 : w.cell? ⟨B, 0, none⟩ = some (.slice a n c)) 
    (hx : Ints w a n xs) : RowsAt w (some ⟨B, 0, none⟩) 1 [xs] := by
  refine ⟨rfl, by omega, fun j hj => ?_⟩
  match j, hj with
  | 0, _ => exact ⟨_, a, n, c, rfl, hB, h0, hx⟩

/-- the errors of two states that work, and a budget -/
def plannedE (f : Fl) (a b : List Int) (budget : Int) : Int := if beginE f budget [a, b] = 0 then (if worksB f a && worksB f b then 0 else 111) else beginE f budget [a, b]

theorem statesE_zero {f : Fl} {L : List (List Int)} (h : statesE f L = 0) : chkB f = true ∧ stsB f.times L = true := by
  unfold statesE at h
  split at h
  · split at h
    · exact ⟨by assumption, by assumption⟩
    · omega
  · omega
theorem stsB_two {T : List (List Int)} {a b : List Int} (h : stsB T [a, b] = true) : stB T a = true ∧ stB T b = true := by
  rw [stsB, List.all_eq_true] at h
  exact ⟨by simpa using h 0 (by simp), by simpa using h 1 (by simp)⟩



/-- a step leads from one state to another one, within a budget -/
def stepsB (T : List (List Int)) (xs ys : List Int) (budget : Int) : Bool := aboveV ys xs && !decide (xs = ys) && decide (dur T xs ys ≤ budget)

theorem aboveV_le {xs ys : List Int} (h : aboveV ys xs = true) : ∀ c, c < ys.length → xs[c]?.getD 0 ≤ ys[c]?.getD 0 := by
  simpa only [aboveV, List.all_eq_true, List.mem_range, decide_eq_true_eq] using h

set_option maxHeartbeats 2000000 in
theorem steps_any (ta ca a b : Option Addr) (tn tc cn cc n c d : Nat) (f : Fl) (xs ys : List Int) (budget : Int) (w : World) (hf : FlAt w ta tn ca cn f) (hok : FlOk f)
    (hx : Ints w a n xs) (hy : Ints w b n ys) (hsx : StOk f xs) (hsy : StOk f ys) :
    Calls Try.prog 63 #[.agg #[.slice ta tn tc, .slice ca cn cc], .slice a n c, .slice b n d, .int .i64 budget] w fun e w' => e = .returned (.bool (stepsB f.times xs ys budget)) ∧ Gr w w' := by
  have hga := Gr.alloc w (.cells #[.slice ta tn tc, .slice ca cn cc] 25)
  have hab := Lib.hid (above_any b a n d n c ys xs _ (hy.gr hga) (hx.gr hga) (Nat.le_refl _))
  cases h1 : aboveV ys xs with
  | false =>
    go_enter Try.func63, Try.ntmps63
    go_wp2_with (go_at_call 58; refine hab.out.mono ?_; rintro e w' ⟨rfl, q, rfl⟩)
    go_ret
    exact ⟨ret_bool (by simp [stepsB, h1]), hga.drewNR _⟩
  | true =>
    have heq := fun q => Lib.hid (equal_any a b n c n d xs ys ((w.alloc (.cells #[.slice ta tn tc, .slice ca cn cc] 25)).drewN q) (hx.gr (hga.drewNR _)) (hy.gr (hga.drewNR _)))
    have HEQ := Lib.hid heq
    clear heq
    cases h2 : decide (xs = ys) with
    | true =>
      go_enter Try.func63, Try.ntmps63
      go_wp2_with (first | (go_at_call 58; refine hab.out.mono ?_; rintro e w' ⟨rfl, q, rfl⟩) | (go_at_call 53; refine (HEQ.out _).out.mono ?_; rintro e w' ⟨rfl, q2, rfl⟩))
      go_ret
      exact ⟨ret_bool (by rw [stepsB, h2]; simp), (hga.drewNR _)⟩
    | false =>
      have hdu := fun q => Lib.hid (duration_any ta ca a b tn tc cn cc n c d f xs ys ((w.alloc (.cells #[.slice ta tn tc, .slice ca cn cc] 25)).drewN q) (hf.gr (hga.drewNR _)) hok (hx.gr (hga.drewNR _)) (hy.gr (hga.drewNR _)) (fun c hc => (hsx.ver c hc).1) hsy (fun c hc => aboveV_le h1 c (by rw [hsy.len]; exact hc)))
      have HDU := Lib.hid hdu
      clear hdu
      go_enter Try.func63, Try.ntmps63
      go_wp2_with (first | (go_at_call 58; refine hab.out.mono ?_; rintro e w' ⟨rfl, q, rfl⟩) | (go_at_call 53; refine (HEQ.out _).out.mono ?_; rintro e w' ⟨rfl, q2, rfl⟩) | (go_at_call 61; refine (HDU.out _).out.mono ?_; rintro e w' ⟨rfl, hgd⟩))
      go_ret
      exact ⟨ret_bool (by rw [stepsB, h1, h2]; simp), (hga.drewNR _).trans (by assumption)⟩
end
section
open Go.RowKit

theorem Try.info3 : (Try.prog.info? 3).map (fun i => (i.zero, i.size, i.bytes)) = some (some (.int .i64 0), 1, 8) := by kernel_rfl

/-- a block of numbers -/
def Is3 (w : World) (b : Nat) : Prop := ∃ cur fr, w.heap[b]? = some (.cells cur 3 fr)

theorem ints_own {w : World} {base : Nat} {v : Value} {n : Nat} {xs : List Int} (hl : xs.length = n) (hn : n < 1152921504606846976) (h : w.ownsRow base 3 1 v n (xs.map (Value.int .i64))) (h0 : 0 < n) :
    ∃ g c, v = .slice (some ⟨g, 0, none⟩) n c ∧ base ≤ g ∧ n ≤ c ∧ Ints w (some ⟨g, 0, none⟩) n xs ∧ Is3 w g := by
  rcases h.2 with ⟨_, h1⟩ | ⟨g, cap, cur, rfl, hb, hg, hnc, _, _, _⟩
  · omega
  · refine ⟨g, cap, rfl, hb, hnc, ⟨hl, hn, fun j hj => ⟨_, rfl, (Array.getElem?_eq_some_iff.1 hg).1, ?_⟩⟩, _, _, hg⟩
    have := h.cells (g := g) rfl j (.int .i64 (xs[j]?.getD 0)) (by simp [hl, hj])
    exact this

theorem Ints.cells {w : World} {ad : Addr} {n : Nat} {xs : List Int} (h : Ints w (some ad) n xs) : ∀ j u, (xs.map (Value.int .i64))[j]? = some u → w.cell? (ad.add j) = some u := by
  intro j u hu
  have hj : j < n := by
    have := (List.getElem?_eq_some_iff.1 hu).1
    rw [List.length_map, h.len] at this; exact this
  obtain ⟨ad', e, _, hc⟩ := h.at hj
  injection e with e
  subst e
  rw [hc]
  rw [List.getElem?_map] at hu
  cases hx : xs[j]? with
  | none => rw [hx] at hu; simp at hu
  | some x => rw [hx] at hu; simpa using hu

theorem ints_one (xs : List Int) : ∀ u ∈ xs.map (Value.int .i64), u.oneCell' = true := by
  intro u hu
  simp only [List.mem_map] at hu
  obtain ⟨x, _, rfl⟩ := hu
  rfl

/-- a new slice that holds xs -/
def NewInts (w : World) (xs : List Int) (e : Ending) (w' : World) : Prop := ∃ g c, e = .returned (.slice (some ⟨g, 0, none⟩) xs.length c) ∧ w.heap.size ≤ g ∧ Ints w' (some ⟨g, 0, none⟩) xs.length xs ∧ Gr w w' ∧ Is3 w' g

set_option maxHeartbeats 1000000 in
theorem clone_any (a : Option Addr) (n c : Nat) (xs : List Int) (w : World) (hx : Ints w a n xs) (h0 : 0 < n) (hn : n ≤ 1000000) : Calls Try.prog 54 #[.slice a n c] w (NewInts w xs) := by
  obtain ⟨ad, rfl, hab, _⟩ := hx.at h0
  obtain ⟨i0, hi, hz0, hz1, hz2⟩ := info_parts Try.info3
  have hnil := fun w a n c => Lib.run_eql_slice_nil (P := Try.prog) w 26 3 a n c 0 0 Try.underlying26
  have hg := Gr.alloc w (.cells #[] 3)
  have hxg := hx.gr hg
  have hown : (w.alloc (.cells #[] 3)).ownsRow w.heap.size 3 1 (.slice (some ⟨w.heap.size, 0, none⟩) 0 0) 0 [] := ⟨rfl, .inr ⟨w.heap.size, 0, #[], rfl, Nat.le_refl _, heap_alloc_new w _, Nat.le_refl _, by unfold maxLen; omega, rfl, rfl⟩⟩
  have HOWN := Lib.hid hown
  clear hown
  go_enter Try.func54, Try.ntmps54
  go_wp2_with (at_builtin; refine wpList_append_own _ rfl _ _ 26 rfl w.heap.size 3 i0 (.int .i64 0) 1 8 Try.underlying26 hi hz0 hz1 hz2 rfl (by decide) _ _ _ rfl HOWN.out ad n c (xs.map (Value.int .i64)) rfl (by rw [List.length_map, hx.len, Nat.mul_one]) hxg.cells (ints_one xs) (by unfold maxLen; omega) (by omega) (by simp) ?_; intro v' w1 hown' hgrow _)
  have hown2 : w1.ownsRow w.heap.size 3 1 v' n (xs.map (Value.int .i64)) := by simpa using hown'
  obtain ⟨g, c', rfl, hge, _, hint, his3⟩ := ints_own hx.len (by omega) hown2 h0
  go_wp2
  go_ret
  have hgr : Gr w w1 := Below.grown hg hgrow (Gr.size hg) (fun k hk => by cases hk; exact Nat.le_refl _)
  rw [← hx.len] at hint ⊢
  exact ⟨g, c', rfl, hge, hint, hgr, his3⟩
end
section
open Go.RowKit

/-- Only blocks of S (and new ones) have turned. -/
structure Only (S : Nat → Prop) (w w' : World) : Prop where
  os : w'.os = w.os
  tape : w'.tape = w.tape
  output : w'.output = w.output
  size : w.heap.size ≤ w'.heap.size
  block : ∀ b, b < w.heap.size → ¬ S b → w'.heap[b]? = w.heap[b]?

theorem Only.refl (S : Nat → Prop) (w : World) : Only S w w := ⟨rfl, rfl, rfl, Nat.le_refl _, fun _ _ _ => rfl⟩
theorem Only.trans {S : Nat → Prop} {a b c : World} (h : Only S a b) (k : Only S b c) : Only S a c :=
  ⟨k.os.trans h.os, k.tape.trans h.tape, k.output.trans h.output, Nat.le_trans h.size k.size, fun i hi hs => (k.block i (Nat.lt_of_lt_of_le hi h.size) hs).trans (h.block i hi hs)⟩
theorem Only.mono {S S' : Nat → Prop} {a b : World} (h : Only S a b) (hs : ∀ i, i < a.heap.size → S i → S' i) : Only S' a b :=
  ⟨h.os, h.tape, h.output, h.size, fun i hi hn => h.block i hi (fun hS => hn (hs i hi hS))⟩
theorem Gr.only {a b : World} (h : Gr a b) (S : Nat → Prop) : Only S a b := ⟨Below.os h, Below.tape h, Below.output h, Below.size h, fun i hi _ => Below.block h i hi⟩
theorem Only.gr {S : Nat → Prop} {a b : World} (h : Only S a b) (hs : ∀ i, i < a.heap.size → ¬ S i) : Gr a b := ⟨h.os, h.tape, h.output, h.size, fun i hi => h.block i hi (hs i hi)⟩
theorem Only.setCell {S : Nat → Prop} {a b : World} (h : Only S a b) {p : Addr} (hp : S p.block ∨ a.heap.size ≤ p.block) (u : Value) : Only S a (b.setCell p u) :=
  ⟨h.os, h.tape, h.output, by simpa [World.setCell] using h.size, fun i hi hn => (Below.heap_setCell b p u i (by
    rintro rfl
    rcases hp with hp | hp
    · exact hn hp
    · omega)).trans (h.block i hi hn)⟩
theorem Only.putObj {S : Nat → Prop} {a b : World} (h : Only S a b) {r : Nat} (hp : S r ∨ a.heap.size ≤ r) (o : Obj) : Only S a (b.putObj r o) :=
  ⟨h.os, h.tape, h.output, by simpa using h.size, fun i hi hn => (World.putObj_heap_other (by
    rintro rfl
    rcases hp with hp | hp
    · exact hn hp
    · omega)).trans (h.block i hi hn)⟩
theorem Only.thenGr {S : Nat → Prop} {a b c : World} (h : Only S a b) (k : Gr b c) : Only S a c := h.trans (k.only S)

/-- no block of S is a row of cells -/
def NoCells (S : Nat → Prop) (w : World) : Prop := ∀ b cs t fr, S b → w.heap[b]? ≠ some (.cells cs t fr)

theorem cell_block {w : World} {p : Addr} {v : Value} (h : w.cell? p = some v) : ∃ cs t fr, w.heap[p.block]? = some (.cells cs t fr) := by
  unfold World.cell? at h
  cases hb : w.heap[p.block]? with
  | none => rw [hb] at h; simp at h
  | some o => cases o <;> first | (rw [hb] at h; simp at h; done) | exact ⟨_, _, _, rfl⟩

theorem Only.cell {S : Nat → Prop} {a b : World} (h : Only S a b) {p : Addr} {v : Value} (hc : a.cell? p = some v) (hs : ¬ S p.block) : b.cell? p = some v := by
  obtain ⟨cs, t, fr, hb⟩ := cell_block hc
  have hlt : p.block < a.heap.size := (Array.getElem?_eq_some_iff.1 hb).1
  rw [World.cell?_of_block (w := a) (h.block p.block hlt hs)]; exact hc
theorem Only.cellN {S : Nat → Prop} {a b : World} (h : Only S a b) (hn : NoCells S a) {p : Addr} {v : Value} (hc : a.cell? p = some v) : b.cell? p = some v := by
  obtain ⟨cs, t, fr, hb⟩ := cell_block hc
  exact h.cell hc (fun hs => hn _ _ _ _ hs hb)

theorem Ints.only {S : Nat → Prop} {w w' : World} {a : Option Addr} {n : Nat} {xs : List Int} (h : Ints w a n xs) (g : Only S w w') (hn : NoCells S w) : Ints w' a n xs :=
  ⟨h.1, h.2.1, fun j hj => by
    obtain ⟨ad, e, hb, hc⟩ := h.2.2 j hj
    exact ⟨ad, e, Nat.lt_of_lt_of_le hb g.size, g.cellN hn hc⟩⟩
theorem Ints.onlyAt {S : Nat → Prop} {w w' : World} {a : Option Addr} {n : Nat} {xs : List Int} (h : Ints w a n xs) (g : Only S w w') (hn : ∀ ad, a = some ad → ¬ S ad.block) : Ints w' a n xs :=
  ⟨h.1, h.2.1, fun j hj => by
    obtain ⟨ad, e, hb, hc⟩ := h.2.2 j hj
    exact ⟨ad, e, Nat.lt_of_lt_of_le hb g.size, g.cell hc (by rw [add_block]; exact hn ad e)⟩⟩
theorem RowsAt.only {S : Nat → Prop} {w w' : World} {a : Option Addr} {n : Nat} {L : List (List Int)} (h : RowsAt w a n L) (g : Only S w w') (hn : NoCells S w) : RowsAt w' a n L :=
  ⟨h.1, h.2.1, fun j hj => by
    obtain ⟨ad, a', n', c', e, hb, hc, hi⟩ := h.2.2 j hj
    exact ⟨ad, a', n', c', e, Nat.lt_of_lt_of_le hb g.size, g.cellN hn hc, hi.only g hn⟩⟩
theorem ClAt.only {S : Nat → Prop} {w w' : World} {a : Option Addr} {n : Nat} {C : List Cl} (h : ClAt w a n C) (g : Only S w w') (hn : NoCells S w) : ClAt w' a n C :=
  ⟨h.1, h.2.1, fun j hj => by
    obtain ⟨ad, e, hb, h0, h1, h2, h3⟩ := h.2.2 j hj
    exact ⟨ad, e, Nat.lt_of_lt_of_le hb g.size, g.cellN hn h0, g.cellN hn h1, g.cellN hn h2, g.cellN hn h3⟩⟩
theorem FlAt.only {S : Nat → Prop} {w w' : World} {ta : Option Addr} {tn : Nat} {ca : Option Addr} {cn : Nat} {f : Fl} (h : FlAt w ta tn ca cn f) (g : Only S w w') (hn : NoCells S w) : FlAt w' ta tn ca cn f :=
  ⟨h.t.only g hn, h.c.only g hn⟩

/-- how the body of a round may be left -/
def roundQ {α : Type} (Y : Nat → Prop) (I : List α → World → Prop) (Ix : Code → World → Prop) (xs : List α) (W : World) : Exit → Act → World → Prop
  | .normal, _, W' => Only Y W W' ∧ I xs W'
  | .ret, _, W' => Only Y W W' ∧ Ix .ret W'
  | .exit id, _, W' => Only Y W W' ∧ Ix (.exit id) W'
  | _, _, _ => False

/-- what holds between two rounds: the caller's word, and the loop's own two blocks -/
def Between {α : Type} (D : Nat) (L : Loop) (I : List α → World → Prop) (xs : List α) (W : World) : Prop :=
  I xs W ∧ W.heap[D + 1]? = some (.loop L) ∧ W.heap[D]? = some (.deferred (some []))
/-- what holds when a round has left the loop -/
def Left (D : Nat) (L : Loop) (Ix : Code → World → Prop) (W : World) : Prop :=
  ∃ c, Ix c W ∧ W.heap[D + 1]? = some (.loop { L with state := .done, pending := some c }) ∧ W.heap[D]? = some (.deferred (some []))

/-- **A RANGE OVER A FUNCTION.** D: the heap's size where the loop begins. -/
theorem range_rule {P : Program} {α : Type} {g : Operand} {ps : Array Tmp} {assign body : Code} {Q : Exit → Act → World → Prop} {a : Act} {w : World} {gf : Nat} {lb : Array Value}
    (hg : a.eval g = .func (.func gf) #[] lb) (eg : ∀ args w, (callFunc gf args).run P w = .ok (.enter gf args) w)
    (I : List α → World → Prop) (Ix : Code → World → Prop) (Y : Nat → Prop) (E : α → Array Value → World → Prop) (S : List α → Prop) (a₁ : Array Value → Act)
    (hY0 : ¬ Y w.heap.size) (hY1 : ¬ Y (w.heap.size + 1))
    (hI : ∀ xs W o, I xs W → I xs (W.putObj (w.heap.size + 1) (.loop o))) (hIx : ∀ c W o, Ix c W → Ix c (W.putObj (w.heap.size + 1) (.loop o)))
    (hEs : ∀ x args W, E x args W → args.size = ps.size) (hEp : ∀ x args W o, E x args W → E x args (W.putObj (w.heap.size + 1) (.loop o)))
    (h0 : I [] w) (hIa : ∀ xs W o, I xs W → I xs (W.alloc o))
    (hassign : ∀ (l : Nat) (x : α) (args : Array Value) (W : World) (K : Act → World → Prop), E x args W → K (a₁ args) W →
      assign.wpIn (Fence.wide.inRound l) 0 P (Exit.then K (fun _ _ _ => False)) { tmps := (ps.zip args).foldl (fun t (p, v) => t.setIfInBounds p v) a.tmps, defers := [] } W)
    (hbody : ∀ (pre : List α) (x : α) (args : Array Value) (W : World), I pre W → E x args W → w.heap.size + 1 < W.heap.size → body.wpIn (Fence.wide.inRound (w.heap.size + 1)) 0 P (roundQ Y I Ix (pre ++ [x]) W) (a₁ args) W)
    (hiter : ∀ (L : Loop), L.state = .ready → L.pending = none →
      (∀ pre x args W, Between w.heap.size L I pre W → E x args W → YieldAt Fence.wide 0 P (w.heap.size + 1) args W fun e W' =>
        (e = .returned (.bool true) ∧ Between w.heap.size L I (pre ++ [x]) W' ∧ Only Y W W') ∨ (e = .returned (.bool false) ∧ Left w.heap.size L Ix W')) →
      Between w.heap.size L I [] ((w.alloc (.deferred (some []))).alloc (.loop L)) →
      CallsIn Fence.wide 0 P gf (#[.func (.yield (w.heap.size + 1)) #[] #[]] ++ lb) ((w.alloc (.deferred (some []))).alloc (.loop L)) fun e W' =>
        (∃ v, e = .returned v) ∧ ((∃ xs, S xs ∧ Between w.heap.size L I xs W') ∨ Left w.heap.size L Ix W'))
    (hdone : ∀ (xs : List α) (W : World), S xs → I xs W → W.heap[w.heap.size]? = some (.deferred (some [])) → Q .normal { a with defers := { target := .collected w.heap.size, args := #[] } :: a.defers } W)
    (hstop : ∀ (c : Code) (W : World), Ix c W → W.heap[w.heap.size]? = some (.deferred (some [])) → c.wpIn Fence.wide 0 P Q { a with defers := { target := .collected w.heap.size, args := #[] } :: a.defers } W) :
    (Code.rangeFunc g ps assign body).wp P Q a w := by
  refine (wpIn_wide (n := 0)).1 ?_
  refine wpIn_rangeFunc ?_
  intro fn hfn
  obtain ⟨L, hL⟩ : ∃ L : Loop, L = { state := .ready, pending := none, fn, tmps := a.tmps, params := ps, assign, body, defers := w.heap.size } := ⟨_, rfl⟩
  obtain ⟨W1, hW1⟩ : ∃ W1, (w.alloc (.deferred (some []))).alloc (.loop L) = W1 := ⟨_, rfl⟩
  have hL1 : W1.heap[w.heap.size + 1]? = some (.loop L) := by
    rw [← hW1]; have := World.alloc_heap_new (w.alloc (.deferred (some []))) (.loop L); rwa [World.size_alloc] at this
  have hK1 : W1.heap[w.heap.size]? = some (.deferred (some [])) := by
    rw [← hW1]; exact (Below.heap_alloc _ _ _ (by simp)).trans (World.alloc_heap_new w _)
  have hI1 : I [] W1 := by rw [← hW1]; exact hIa _ _ _ (hIa _ _ _ h0)
  refine ⟨w.heap.size + 1, [{ target := .collected w.heap.size, args := #[] }], W1, { target := .fn (.func gf) lb, args := #[.func (.yield (w.heap.size + 1)) #[] #[]] }, W1, gf,
    #[.func (.yield (w.heap.size + 1)) #[] #[]] ++ lb, W1, ?_, ?_, fun _ _ => trivial, ?_, fun h => by simp [Fence.wide] at h, ?_⟩
  · rw [← hW1, hL]; exact run_enterLoop_outer _ _ _ _ _
  · simp only [resolve, hg]
    simp [go_sem]
  · simp [invoke, go_sem, eg]
  · have hit := hiter L (by rw [hL]) (by rw [hL])
    rw [hW1] at hit
    refine (hit ?_ ⟨hI1, hL1, hK1⟩).mono ?_
    · rintro pre x args W ⟨hi, hl, hk⟩ hE
      have hlt : w.heap.size + 1 < W.heap.size := (Array.getElem?_eq_some_iff.1 hl).1
      have hy := run_yield (P := P) (args := args) hl (by rw [hL]; exact hEs x args W hE)
      rw [hL] at hy
      refine ⟨fn, _, assign, body, hy, roundIn_of_wpIn (F := Fence.wide) trivial (hassign _ x args W _ hE ⟨_, run_beginRound hl (by rw [hL]), ?_⟩)⟩
      have hl2 : (W.putObj (w.heap.size + 1) (.loop { L with state := .busy })).heap[w.heap.size + 1]? = some (.loop { L with state := .busy }) := World.putObj_heap_same hlt
      have hk2 : (W.putObj (w.heap.size + 1) (.loop { L with state := .busy })).heap[w.heap.size]? = some (.deferred (some [])) := (World.putObj_heap_other (by omega)).trans hk
      have hsz2 : (W.putObj (w.heap.size + 1) (.loop { L with state := .busy })).heap.size = W.heap.size := by simp
      refine wpIn_mono (hbody pre x args _ (hI _ _ _ hi) (hEp _ _ _ _ hE) (by rw [hsz2]; exact hlt)) ?_
      have hrest : ∀ (W3 : World) (o : Loop), Only Y (W.putObj (w.heap.size + 1) (.loop { L with state := .busy })) W3 → (W3.putObj (w.heap.size + 1) (.loop o)).heap[w.heap.size]? = some (.deferred (some [])) := fun W3 o ho =>
        (World.putObj_heap_other (by omega)).trans ((ho.block _ (by rw [hsz2]; omega) hY0).trans hk2)
      have hl3 : ∀ (W3 : World), Only Y (W.putObj (w.heap.size + 1) (.loop { L with state := .busy })) W3 → W3.heap[w.heap.size + 1]? = some (.loop { L with state := .busy }) := fun W3 ho =>
        (ho.block _ (by rw [hsz2]; omega) hY1).trans hl2
      rintro e a3 W3 hp
      cases e with
      | normal =>
        obtain ⟨ho, hi3⟩ := hp
        have hl4 := hl3 W3 ho
        have hlt4 : w.heap.size + 1 < W3.heap.size := (Array.getElem?_eq_some_iff.1 hl4).1
        have hrun := run_endRound (P := P) none hl4
        have hLL : ({ ({ L with state := .busy } : Loop) with state := if (none : Option Code).isNone then .ready else .done, pending := none } : Loop) = L := by rw [hL]; rfl
        rw [hLL] at hrun
        refine ⟨_, _, hrun, .inl ⟨rfl, ⟨hI _ _ _ hi3, World.putObj_heap_same hlt4, hrest W3 L ho⟩, ?_⟩⟩
        refine ⟨ho.os, ho.tape, ho.output, by have := ho.size; simp at this ⊢; exact this, fun b hb hn => ?_⟩
        by_cases e : b = w.heap.size + 1
        · subst e; rw [World.putObj_heap_same hlt4, hl]
        · rw [World.putObj_heap_other e, ho.block b (by rw [hsz2]; exact hb) hn, World.putObj_heap_other e]
      | ret =>
        obtain ⟨ho, hi3⟩ := hp
        have hl4 := hl3 W3 ho
        have hlt4 : w.heap.size + 1 < W3.heap.size := (Array.getElem?_eq_some_iff.1 hl4).1
        have hrun := run_endRound (P := P) (some .ret) hl4
        exact ⟨_, _, hrun, .inr ⟨rfl, .ret, hIx _ _ _ hi3, World.putObj_heap_same hlt4, hrest W3 _ ho⟩⟩
      | exit id =>
        obtain ⟨ho, hi3⟩ := hp
        have hl4 := hl3 W3 ho
        have hlt4 : w.heap.size + 1 < W3.heap.size := (Array.getElem?_eq_some_iff.1 hl4).1
        have hrun := run_endRound (P := P) (some (.exit id)) hl4
        exact ⟨_, _, hrun, .inr ⟨rfl, .exit id, hIx _ _ _ hi3, World.putObj_heap_same hlt4, hrest W3 _ ho⟩⟩
      | goto t => exact hp.elim
      | panic ch => exact hp.elim
      | outgrown => exact hp.elim
    · rintro e W2 ⟨⟨v, rfl⟩, (⟨xs, hS, hi, hl, hk⟩ | ⟨c, hi, hl, hk⟩)⟩
      · refine ⟨L.pending, _, run_endLoop (P := P) hl (by rw [hL]; simp), ?_⟩
        have : L.pending = none := by rw [hL]
        rw [this]
        exact hdone xs _ hS (hI _ _ _ hi) ((World.putObj_heap_other (by omega)).trans hk)
      · refine ⟨some c, _, run_endLoop (P := P) hl (by simp), ?_⟩
        exact hstop c _ (hIx _ _ _ hi) ((World.putObj_heap_other (by omega)).trans hk)

theorem run_yield_op {P : Program} {o : Oper} {a : Act} {W : World} {l fn : Nat} {tmps : Array Value} {assign body : Code} {f x : Operand} {ts : Array TypeId} {v : Value} {ro : Option Nat}
    (ho : o.op = .call { callee := .value f, args := #[x], argTypes := ts }) (hf : a.eval f = .func (.yield l) #[] #[]) (hx : a.eval x = v) (hy : (Instr.yield l #[v]).run P W = .ok (.round l fn tmps assign body) W) :
    (o.semAt ro a.eval).run P W = .ok (.round l fn tmps assign body) W := by
  rw [Oper.semAt_eq _ _ _ (by rw [ho]; intro c h; cases h)]
  unfold execOp
  simp only [ho, resolve, hf, hx, Deferred.ofValue, List.map_toArray, List.map_cons, List.map_nil]
  simp [invoke, hy, go_sem]

/-- a call of yield as an operation -/
theorem op_yield {P : Program} {o : Oper} {a : Act} {W : World} {l : Nat} {f x : Operand} {ts : Array TypeId} {v : Value} {ro : Option Nat} {n : Nat} {K : Act → World → Prop} {Q : Exit → Act → World → Prop} {Rr : Ending → World → Prop}
    (ho : o.op = .call { callee := .value f, args := #[x], argTypes := ts }) (hf : a.eval f = .func (.yield l) #[] #[]) (hx : a.eval x = v) (hy : YieldAt Fence.wide 0 P l #[v] W Rr)
    (hr : ∀ e W', Rr e W' → ∃ v', e = .returned v') (hK : ∀ v' W', Rr (.returned v') W' → K (a.put o.dst v') W') : o.wpIn { Fence.wide with round := ro } n P a W K Q := by
  obtain ⟨fn, tmps, assign, body, hy, hR⟩ := hy
  refine ⟨fun _ _ => trivial, ?_⟩
  show Oper.uponIn _ _ _ _ _ _ _ ((o.semAt ro a.eval).run P W)
  rw [run_yield_op ho hf hx hy, Oper.uponIn_round]
  refine ⟨fun h => by simp [Fence.wide] at h, trivial, fun c cs _ => ?_⟩
  obtain ⟨e, w', hRe, hs⟩ := hR.2 c cs (room_wide _)
  obtain ⟨v', rfl⟩ := hr e w' hRe
  exact ⟨.returned v', w', hK v' w' hRe, hs⟩
end
section
open Go.RowKit

/-- all states that work, from lo to hi, that go on from pre by k more computers -/
def enum (f : Fl) (lo hi : List Int) : Nat → List Int → List (List Int)
  | 0, pre => if worksB f pre then [pre] else []
  | k + 1, pre => (List.range (hi[pre.length]?.getD 0 - lo[pre.length]?.getD 0 + 1).toNat).flatMap fun (i : Nat) => enum f lo hi k (pre ++ [lo[pre.length]?.getD 0 + (i : Int)])

/-- where the closure's variables lie -/
structure NP where
  bfr : Nat
  bfl : Nat
  by_ : Nat
  bto : Nat
  bn : Nat
  p : Nat
  l : Nat
  fa : Option Addr
  fc : Nat
  ta : Option Addr
  tn : Nat
  tc : Nat
  ca : Option Addr
  cn : Nat
  cc : Nat
  toa : Option Addr
  toc : Nat
  n : Nat
  f : Fl
  lo : List Int
  hi : List Int
  wB : World
  S : Nat → Prop


structure NEnv (q : NP) (W : World) : Prop where
  cfr : W.cell? ⟨q.bfr, 0, none⟩ = some (.slice q.fa q.n q.fc)
  cfl0 : W.cell? ⟨q.bfl, 0, none⟩ = some (.slice q.ta q.tn q.tc)
  cfl1 : W.cell? ⟨q.bfl, 1, none⟩ = some (.slice q.ca q.cn q.cc)
  cy : W.cell? ⟨q.by_, 0, none⟩ = some (.func (.yield q.l) #[] #[])
  cto : W.cell? ⟨q.bto, 0, none⟩ = some (.slice q.toa q.n q.toc)
  cn_ : W.cell? ⟨q.bn, 0, none⟩ = some (.func (.func 95) #[] #[.pointer (some ⟨q.bfr, 0, none⟩), .pointer (some ⟨q.bfl, 0, none⟩), .pointer (some ⟨q.by_, 0, none⟩), .pointer (some ⟨q.bto, 0, none⟩), .pointer (some ⟨q.bn, 0, none⟩)])
  fl : FlAt W q.ta q.tn q.ca q.cn q.f
  ilo : Ints W q.fa q.n q.lo
  ihi : Ints W q.toa q.n q.hi
  pl : q.p < W.heap.size
  base : Only q.S q.wB W

/-- the buffer begins with pre -/
def Buf (q : NP) (W : World) (pre : List Int) : Prop := ∃ rest : List Value, W.heap[q.p]? = some (.cells (pre.map (Value.int .i64) ++ rest).toArray 3 (0, 0)) ∧ pre.length + rest.length = q.n

theorem Buf.ints {q : NP} {W : World} {pre : List Int} (h : Buf q W pre) (hn : q.n ≤ 6) : Ints W (some ⟨q.p, 0, none⟩) pre.length pre := by
  obtain ⟨rest, hb, hl⟩ := h
  refine ⟨rfl, by omega, fun j hj => ⟨_, rfl, (Array.getElem?_eq_some_iff.1 hb).1, ?_⟩⟩
  have e : ((⟨q.p, 0, none⟩ : Addr).add j) = ⟨q.p, j, none⟩ := by
    unfold Addr.add; split
    · subst_vars; rfl
    · simp
  rw [e]
  simp [World.cell?, hb, List.getElem?_append_left, hj]

/-- what holds after the closure has run to its end, or has been stopped -/
def NPost (q : NP) (J : List (List Int) → World → Prop) (Jx : World → Prop) (pre : List Int) (done : List (List Int)) (e : Ending) (W' : World) : Prop :=
  (e = .returned (.bool true) ∧ J done W' ∧ NEnv q W' ∧ Buf q W' pre) ∨ (e = .returned (.bool false) ∧ Jx W')

/-- what the closure is called under -/
structure NHyp (q : NP) (Y : Nat → Prop) (J : List (List Int) → World → Prop) (Jx : World → Prop) (all : List (List Int)) : Prop where
  ok : FlOk q.f
  n1 : 1 ≤ q.n
  nt : q.n = q.f.times.length
  lo0 : ∀ c, c < q.n → 0 ≤ q.lo[c]?.getD 0
  hi1 : ∀ c, c < q.n → q.hi[c]?.getD 0 ≤ ((q.f.times[c]?.getD []).length : Int)
  env : ∀ W W', NEnv q W → Only (fun b => Y b ∨ b = q.p) W W' → NEnv q W'
  yp : ¬ Y q.p
  hJ : ∀ done W W', J done W → Only (fun b => b = q.p) W W' → J done W'
  hJx : ∀ W W', Jx W → Gr W W' → Jx W'
  hY : ∀ done x rest W a c, J done W → NEnv q W → Ints W (some a) q.n x → Is3 W a.block → q.p < a.block → all = done ++ x :: rest → StOk q.f x → worksB q.f x = true →
    YieldAt Fence.wide 0 Try.prog q.l #[.slice (some a) q.n c] W fun e W' => (e = .returned (.bool true) ∧ J (done ++ [x]) W' ∧ Only Y W W') ∨ (e = .returned (.bool false) ∧ Jx W')

def LeafClone (q : NP) (W : World) (pre : List Int) (W' : World) (v : Value) : Prop := ∃ g c, v = .slice (some ⟨g, 0, none⟩) q.n c ∧ W.heap.size ≤ g ∧ Ints W' (some ⟨g, 0, none⟩) q.n pre ∧ Is3 W' g
def LeafOut (q : NP) (J : List (List Int) → World → Prop) (Jx : World → Prop) (pre : List Int) (done : List (List Int)) (W' : World) (v : Value) : Prop :=
  (v = .bool true ∧ J done W' ∧ NEnv q W' ∧ Buf q W' pre) ∨ (v = .bool false ∧ Jx W')

theorem lt_cell {W : World} {p : Addr} {v : Value} (h : W.cell? p = some v) : p.block < W.heap.size := by
  obtain ⟨_, _, _, hb⟩ := cell_block h
  exact (Array.getElem?_eq_some_iff.1 hb).1

set_option maxHeartbeats 400000 in
theorem next_leaf (q : NP) (Y : Nat → Prop) (J : List (List Int) → World → Prop) (Jx : World → Prop) (all : List (List Int)) (H : NHyp q Y J Jx all) (pre : List Int) (done rest : List (List Int)) (W : World)
    (hl : pre.length = q.n) (hst : StOk q.f pre) (hE : NEnv q W) (hB : Buf q W pre) (hJ : J done W) (hall : all = done ++ (enum q.f q.lo q.hi 0 pre ++ rest)) :
    Calls Try.prog 95 #[.slice (some ⟨q.p, 0, none⟩) q.n q.n, .pointer (some ⟨q.bfr, 0, none⟩), .pointer (some ⟨q.bfl, 0, none⟩), .pointer (some ⟨q.by_, 0, none⟩), .pointer (some ⟨q.bto, 0, none⟩), .pointer (some ⟨q.bn, 0, none⟩)] W
      (NPost q J Jx pre (done ++ enum q.f q.lo q.hi 0 pre)) := by
  have hn6 : q.n ≤ 6 := by have := H.ok.n6; have := H.nt; omega
  have hcfr := hE.cfr
  have hints : Ints W (some ⟨q.p, 0, none⟩) q.n pre := by have := hB.ints hn6; rw [hl] at this; exact this
  cases hb : worksB q.f pre with
  | false =>
    have henum : Hid (enum q.f q.lo q.hi 0 pre = []) := Lib.hid (by simp [enum, hb])
    go_enter Try.func95, Try.ntmps95
    go_wp2_with fail
    refine (wpIn_wide (n := 0)).1 ?_
    refine region_inv (F := Fence.wide) (by kernel_rfl) (by rfl) (by decide) (fun _ => trivial)
      (fun done u W' => Gr W W' ∧ Vl done u 0 (· = .agg #[.slice q.ta q.tn q.tc, .slice q.ca q.cn q.cc]) ∧ Vl done u 1 (· = .slice (some ⟨q.p, 0, none⟩) q.n q.n) ∧ Vl done u 2 (· = .bool false) ∧ Vl done u 3 (· = .bool true) ∧ Vl done u 4 (· = .bool true) ∧ Vl done u 9 (· = .bool true) ∧ Vl done u 10 (· = .bool true))
      (fun u => ⟨Gr.drew W, Vl.start, Vl.start, Vl.start, Vl.start, Vl.start, Vl.start, Vl.start⟩) ⟨?_, ?_, ?_, ?_, ?_, ?_, ?_, ?_, ?_, ?_, ?_, trivial⟩ ?_
    · rintro u done W' hd hanc - ⟨hg, r0, r1, r2, r3, r4, r9, r10⟩
      have c0 := (hg.cell (p := ⟨q.bfl, 0, none⟩) (lt_cell hE.cfl0)).trans hE.cfl0
      have c1 := (hg.cell (p := ⟨q.bfl, 1, none⟩) (lt_cell hE.cfl1)).trans hE.cfl1
      refine op_plain (ro := none) rfl (fun c h => by cases h) fun K hK => ?_
      simp only [fillL, List.setIfInBounds_toArray, List.set_cons_zero, List.set_cons_succ, Nat.zero_add, Nat.reduceAdd] at hK ⊢
      go_simp
      exact hK _ _ ⟨hg, Vl.new rfl, r1.keep (by decide), r2.keep (by decide), r3.keep (by decide), r4.keep (by decide), r9.keep (by decide), r10.keep (by decide)⟩
    · rintro u done W' hd hanc - ⟨hg, r0, r1, r2, r3, r4, r9, r10⟩
      refine op_plain (ro := none) rfl (fun c h => by cases h) fun K hK => ?_
      simp only [fillL, List.setIfInBounds_toArray, List.set_cons_zero, List.set_cons_succ, Nat.zero_add, Nat.reduceAdd] at hK ⊢
      go_simp
      exact hK _ _ ⟨hg, r0.keep (by decide), Vl.new rfl, r2.keep (by decide), r3.keep (by decide), r4.keep (by decide), r9.keep (by decide), r10.keep (by decide)⟩
    · rintro u done W' hd hanc - ⟨hg, r0, r1, r2, r3, r4, r9, r10⟩
      have e0 : u 0 = _ := r0 (hanc 0 (mem_of (by kernel_rfl)))
      have e1 : u 1 = _ := r1 (hanc 1 (mem_of (by kernel_rfl)))
      refine op_plain (ro := none) rfl (fun c h => by cases h) fun K hK => ?_
      simp only [fillL, List.setIfInBounds_toArray, List.set_cons_zero, List.set_cons_succ, Nat.zero_add, Nat.reduceAdd, e0, e1] at hK ⊢
      have hcon := works_any q.ta q.ca (some ⟨q.p, 0, none⟩) q.tn q.tc q.cn q.cc q.n q.n q.f pre W' (hE.fl.gr hg) H.ok ((hints).gr hg) hst
      rw [hb] at hcon
      have HCON := Lib.hid hcon
      clear hcon
      go_simp
      refine HCON.out.mono ?_
      rintro e w2 ⟨rfl, hg2⟩
      exact hK _ _ ⟨hg.trans hg2, r0.keep (by decide), r1.keep (by decide), Vl.new rfl, r3.keep (by decide), r4.keep (by decide), r9.keep (by decide), r10.keep (by decide)⟩
    · rintro u done W' hd hanc - ⟨hg, r0, r1, r2, r3, r4, r9, r10⟩
      have e2 : u 2 = _ := r2 (hanc 2 (mem_of (by kernel_rfl)))
      refine op_plain (ro := none) rfl (fun c h => by cases h) fun K hK => ?_
      simp only [fillL, List.setIfInBounds_toArray, List.set_cons_zero, List.set_cons_succ, Nat.zero_add, Nat.reduceAdd, e2] at hK ⊢
      go_simp
      exact hK _ _ ⟨hg, r0.keep (by decide), r1.keep (by decide), r2.keep (by decide), Vl.new rfl, r4.keep (by decide), r9.keep (by decide), r10.keep (by decide)⟩
    · rintro u done W' hd hanc - ⟨hg, r0, r1, r2, r3, r4, r9, r10⟩
      have e3 : u 3 = _ := r3 (hanc 3 (mem_of (by kernel_rfl)))
      refine op_plain (ro := none) rfl (fun c h => by cases h) fun K hK => ?_
      simp only [fillL, List.setIfInBounds_toArray, List.set_cons_zero, List.set_cons_succ, Nat.zero_add, Nat.reduceAdd, e3] at hK ⊢
      go_simp
      exact hK _ _ ⟨hg, r0.keep (by decide), r1.keep (by decide), r2.keep (by decide), r3.keep (by decide), Vl.new rfl, r9.keep (by decide), r10.keep (by decide)⟩
    · intro u done W' hd hanc _ hR
      have e4 : u 4 = _ := hR.2.2.2.2.2.1 (hanc 4 (mem_of (by kernel_rfl)))
      with_reducible refine op_skip 4 false e4 rfl ?_ ?_ rfl ?_
      · decide
      · rfl
      · obtain ⟨hg, r0, r1, r2, r3, r4, r9, r10⟩ := hR
        exact ⟨hg, r0.keep (by decide), r1.keep (by decide), r2.keep (by decide), r3.keep (by decide), r4.keep (by decide), r9.keep (by decide), r10.keep (by decide)⟩
    · intro u done W' hd hanc _ hR
      have e4 : u 4 = _ := hR.2.2.2.2.2.1 (hanc 4 (mem_of (by kernel_rfl)))
      with_reducible refine op_skip 4 false e4 rfl ?_ ?_ rfl ?_
      · decide
      · rfl
      · obtain ⟨hg, r0, r1, r2, r3, r4, r9, r10⟩ := hR
        exact ⟨hg, r0.keep (by decide), r1.keep (by decide), r2.keep (by decide), r3.keep (by decide), r4.keep (by decide), r9.keep (by decide), r10.keep (by decide)⟩
    · intro u done W' hd hanc _ hR
      have e4 : u 4 = _ := hR.2.2.2.2.2.1 (hanc 4 (mem_of (by kernel_rfl)))
      with_reducible refine op_skip 4 false e4 rfl ?_ ?_ rfl ?_
      · decide
      · rfl
      · obtain ⟨hg, r0, r1, r2, r3, r4, r9, r10⟩ := hR
        exact ⟨hg, r0.keep (by decide), r1.keep (by decide), r2.keep (by decide), r3.keep (by decide), r4.keep (by decide), r9.keep (by decide), r10.keep (by decide)⟩
    · intro u done W' hd hanc _ hR
      have e4 : u 4 = _ := hR.2.2.2.2.2.1 (hanc 4 (mem_of (by kernel_rfl)))
      with_reducible refine op_skip 4 false e4 rfl ?_ ?_ rfl ?_
      · decide
      · rfl
      · obtain ⟨hg, r0, r1, r2, r3, r4, r9, r10⟩ := hR
        exact ⟨hg, r0.keep (by decide), r1.keep (by decide), r2.keep (by decide), r3.keep (by decide), r4.keep (by decide), r9.keep (by decide), r10.keep (by decide)⟩
    · rintro u done W' hd hanc - ⟨hg, r0, r1, r2, r3, r4, r9, r10⟩
      have e4 : u 4 = _ := r4 (hanc 4 (mem_of (by kernel_rfl)))
      refine op_plain (ro := none) rfl (fun c h => by cases h) fun K hK => ?_
      simp only [fillL, List.setIfInBounds_toArray, List.set_cons_zero, List.set_cons_succ, Nat.zero_add, Nat.reduceAdd, e4] at hK ⊢
      go_simp
      exact hK _ _ ⟨hg, r0.keep (by decide), r1.keep (by decide), r2.keep (by decide), r3.keep (by decide), r4.keep (by decide), Vl.new rfl, r10.keep (by decide)⟩
    · rintro u done W' hd hanc - ⟨hg, r0, r1, r2, r3, r4, r9, r10⟩
      have e9 : u 9 = _ := r9 (hanc 9 (mem_of (by kernel_rfl)))
      refine op_plain (ro := none) rfl (fun c h => by cases h) fun K hK => ?_
      simp only [fillL, List.setIfInBounds_toArray, List.set_cons_zero, List.set_cons_succ, Nat.zero_add, Nat.reduceAdd, e9] at hK ⊢
      go_simp
      exact hK _ _ ⟨hg, r0.keep (by decide), r1.keep (by decide), r2.keep (by decide), r3.keep (by decide), r4.keep (by decide), r9.keep (by decide), Vl.new rfl⟩
    · rintro u W' ⟨done, hdn, hg, r0, r1, r2, r3, r4, r9, r10⟩
      have e10 : u 10 = _ := r10 (hdn 10 (by decide))
      simp only [fillL, List.setIfInBounds_toArray, List.set_cons_zero, List.set_cons_succ]
      go_wp2
      go_ret
      refine .inl ⟨by simp [e10], ?_⟩
      rw [henum.out, List.append_nil]
      obtain ⟨rst, hbk, hrl⟩ := hB
      exact ⟨H.hJ _ _ _ hJ (hg.only _), H.env _ _ hE (hg.only _), rst, (hg.below.block _ hE.pl).trans hbk, hrl⟩
  | true =>
    have henum : Hid (enum q.f q.lo q.hi 0 pre = [pre]) := Lib.hid (by simp [enum, hb])
    go_enter Try.func95, Try.ntmps95
    go_wp2_with fail
    refine (wpIn_wide (n := 0)).1 ?_
    refine region_inv (F := Fence.wide) (by kernel_rfl) (by rfl) (by decide) (fun _ => trivial)
      (fun done' u W' => Vl done' u 0 (· = .agg #[.slice q.ta q.tn q.tc, .slice q.ca q.cn q.cc]) ∧ Vl done' u 1 (· = .slice (some ⟨q.p, 0, none⟩) q.n q.n) ∧ Vl done' u 2 (· = .bool true) ∧ Vl done' u 3 (· = .bool false) ∧ Vl done' u 4 (· = .bool false) ∧ Vl done' u 5 (· = .func (.yield q.l) #[] #[]) ∧ Vl done' u 6 (· = .slice (some ⟨q.p, 0, none⟩) q.n q.n) ∧
        (done' 8 = false → Gr W W' ∧ Vl done' u 7 (LeafClone q W pre W')) ∧ Vl done' u 8 (LeafOut q J Jx pre (done ++ [pre]) W') ∧ Vl done' u 9 (LeafOut q J Jx pre (done ++ [pre]) W') ∧ Vl done' u 10 (LeafOut q J Jx pre (done ++ [pre]) W'))
      (fun u => ⟨Vl.start, Vl.start, Vl.start, Vl.start, Vl.start, Vl.start, Vl.start, fun _ => ⟨Gr.drew W, Vl.start⟩, Vl.start, Vl.start, Vl.start⟩) ⟨?_, ?_, ?_, ?_, ?_, ?_, ?_, ?_, ?_, ?_, ?_, trivial⟩ ?_
    · rintro u done' W' hd hanc hclo ⟨r0, r1, r2, r3, r4, r5, r6, r7, r8, r9, r10⟩
      have h8 : done' 8 = false := by
        cases h : done' 8 with
        | false => rfl
        | true => rw [hclo 8 _ rfl h 0 (mem_of (by kernel_rfl))] at hd; cases hd
      obtain ⟨hg, r7'⟩ := r7 h8
      have c0 := (hg.cell (p := ⟨q.bfl, 0, none⟩) (lt_cell hE.cfl0)).trans hE.cfl0
      have c1 := (hg.cell (p := ⟨q.bfl, 1, none⟩) (lt_cell hE.cfl1)).trans hE.cfl1
      refine op_plain (ro := none) rfl (fun c h => by cases h) fun K hK => ?_
      simp only [fillL, List.setIfInBounds_toArray, List.set_cons_zero, List.set_cons_succ, Nat.zero_add, Nat.reduceAdd] at hK ⊢
      go_simp
      exact hK _ _ ⟨Vl.new rfl, r1.keep (by decide), r2.keep (by decide), r3.keep (by decide), r4.keep (by decide), r5.keep (by decide), r6.keep (by decide), fun _ => ⟨hg, r7'.keep (by decide)⟩, r8.keep (by decide), r9.keep (by decide), r10.keep (by decide)⟩
    · rintro u done' W' hd hanc hclo ⟨r0, r1, r2, r3, r4, r5, r6, r7, r8, r9, r10⟩
      have h8 : done' 8 = false := by
        cases h : done' 8 with
        | false => rfl
        | true => rw [hclo 8 _ rfl h 1 (mem_of (by kernel_rfl))] at hd; cases hd
      obtain ⟨hg, r7'⟩ := r7 h8
      refine op_plain (ro := none) rfl (fun c h => by cases h) fun K hK => ?_
      simp only [fillL, List.setIfInBounds_toArray, List.set_cons_zero, List.set_cons_succ, Nat.zero_add, Nat.reduceAdd] at hK ⊢
      go_simp
      exact hK _ _ ⟨r0.keep (by decide), Vl.new rfl, r2.keep (by decide), r3.keep (by decide), r4.keep (by decide), r5.keep (by decide), r6.keep (by decide), fun _ => ⟨hg, r7'.keep (by decide)⟩, r8.keep (by decide), r9.keep (by decide), r10.keep (by decide)⟩
    · rintro u done' W' hd hanc hclo ⟨r0, r1, r2, r3, r4, r5, r6, r7, r8, r9, r10⟩
      have h8 : done' 8 = false := by
        cases h : done' 8 with
        | false => rfl
        | true => rw [hclo 8 _ rfl h 2 (mem_of (by kernel_rfl))] at hd; cases hd
      obtain ⟨hg, r7'⟩ := r7 h8
      have e0 : u 0 = _ := r0 (hanc 0 (mem_of (by kernel_rfl)))
      have e1 : u 1 = _ := r1 (hanc 1 (mem_of (by kernel_rfl)))
      refine op_plain (ro := none) rfl (fun c h => by cases h) fun K hK => ?_
      simp only [fillL, List.setIfInBounds_toArray, List.set_cons_zero, List.set_cons_succ, Nat.zero_add, Nat.reduceAdd, e0, e1] at hK ⊢
      have hcon := works_any q.ta q.ca (some ⟨q.p, 0, none⟩) q.tn q.tc q.cn q.cc q.n q.n q.f pre W' (hE.fl.gr hg) H.ok ((hints).gr hg) hst
      rw [hb] at hcon
      have HCON := Lib.hid hcon
      clear hcon
      go_simp
      refine HCON.out.mono ?_
      rintro e w2 ⟨rfl, hg2⟩
      have h7 : done' 7 = false := by
        cases h : done' 7 with
        | false => rfl
        | true => rw [hclo 7 _ rfl h 2 (mem_of (by kernel_rfl))] at hd; cases hd
      have h8s : Vl done' u 8 (LeafOut q J Jx pre (done ++ [pre]) w2) := fun h => by rw [h8] at h; cases h
      have h9s : Vl done' u 9 (LeafOut q J Jx pre (done ++ [pre]) w2) := fun h => by have := hclo 9 _ rfl h 8 (mem_of (by kernel_rfl)); rw [h8] at this; cases this
      have h10s : Vl done' u 10 (LeafOut q J Jx pre (done ++ [pre]) w2) := fun h => by have := hclo 10 _ rfl h 8 (mem_of (by kernel_rfl)); rw [h8] at this; cases this
      exact hK _ _ ⟨r0.keep (by decide), r1.keep (by decide), Vl.new rfl, r3.keep (by decide), r4.keep (by decide), r5.keep (by decide), r6.keep (by decide), fun _ => ⟨hg.trans hg2, Vl.keep (fun h => by rw [h7] at h; cases h) (by decide)⟩, h8s.keep (by decide), h9s.keep (by decide), h10s.keep (by decide)⟩
    · rintro u done' W' hd hanc hclo ⟨r0, r1, r2, r3, r4, r5, r6, r7, r8, r9, r10⟩
      have h8 : done' 8 = false := by
        cases h : done' 8 with
        | false => rfl
        | true => rw [hclo 8 _ rfl h 3 (mem_of (by kernel_rfl))] at hd; cases hd
      obtain ⟨hg, r7'⟩ := r7 h8
      have e2 : u 2 = _ := r2 (hanc 2 (mem_of (by kernel_rfl)))
      refine op_plain (ro := none) rfl (fun c h => by cases h) fun K hK => ?_
      simp only [fillL, List.setIfInBounds_toArray, List.set_cons_zero, List.set_cons_succ, Nat.zero_add, Nat.reduceAdd, e2] at hK ⊢
      go_simp
      exact hK _ _ ⟨r0.keep (by decide), r1.keep (by decide), r2.keep (by decide), Vl.new rfl, r4.keep (by decide), r5.keep (by decide), r6.keep (by decide), fun _ => ⟨hg, r7'.keep (by decide)⟩, r8.keep (by decide), r9.keep (by decide), r10.keep (by decide)⟩
    · rintro u done' W' hd hanc hclo ⟨r0, r1, r2, r3, r4, r5, r6, r7, r8, r9, r10⟩
      have h8 : done' 8 = false := by
        cases h : done' 8 with
        | false => rfl
        | true => rw [hclo 8 _ rfl h 4 (mem_of (by kernel_rfl))] at hd; cases hd
      obtain ⟨hg, r7'⟩ := r7 h8
      have e3 : u 3 = _ := r3 (hanc 3 (mem_of (by kernel_rfl)))
      refine op_plain (ro := none) rfl (fun c h => by cases h) fun K hK => ?_
      simp only [fillL, List.setIfInBounds_toArray, List.set_cons_zero, List.set_cons_succ, Nat.zero_add, Nat.reduceAdd, e3] at hK ⊢
      go_simp
      exact hK _ _ ⟨r0.keep (by decide), r1.keep (by decide), r2.keep (by decide), r3.keep (by decide), Vl.new rfl, r5.keep (by decide), r6.keep (by decide), fun _ => ⟨hg, r7'.keep (by decide)⟩, r8.keep (by decide), r9.keep (by decide), r10.keep (by decide)⟩
    · intro u done' W' hd hanc hclo hR
      have e4 : u 4 = _ := hR.2.2.2.2.1 (hanc 4 (mem_of (by kernel_rfl)))
      with_reducible refine op_meetIn 4 false e4 ?_ ?_ ?_ ?_
      · decide
      · rfl
      · rfl
      refine op_in (ro := none) ?_ ?_
      · intro c h; cases h
      intro K hK
      have r0 := hR.1
      have r1 := hR.2.1
      have r2 := hR.2.2.1
      have r3 := hR.2.2.2.1
      have r4 := hR.2.2.2.2.1
      have r5 := hR.2.2.2.2.2.1
      have r6 := hR.2.2.2.2.2.2.1
      have r7 := hR.2.2.2.2.2.2.2.1
      have r8 := hR.2.2.2.2.2.2.2.2.1
      have r9 := hR.2.2.2.2.2.2.2.2.2.1
      have r10 := hR.2.2.2.2.2.2.2.2.2.2
      have h8 : done' 8 = false := by
        cases h : done' 8 with
        | false => rfl
        | true => rw [hclo 8 _ rfl h 5 (mem_of (by kernel_rfl))] at hd; cases hd
      have hg := (r7 h8).1
      have r7' := (r7 h8).2
      have cy := (hg.cell (p := ⟨q.by_, 0, none⟩) (lt_cell hE.cy)).trans hE.cy
      simp only [fillL, List.setIfInBounds_toArray, List.set_cons_zero, List.set_cons_succ, Nat.zero_add, Nat.reduceAdd, e4] at hK ⊢
      go_simp
      exact hK _ _ ⟨r0.keep (by decide), r1.keep (by decide), r2.keep (by decide), r3.keep (by decide), r4.keep (by decide), Vl.new rfl, r6.keep (by decide), fun _ => ⟨hg, r7'.keep (by decide)⟩, r8.keep (by decide), r9.keep (by decide), r10.keep (by decide)⟩
    · intro u done' W' hd hanc hclo hR
      have e4 : u 4 = _ := hR.2.2.2.2.1 (hanc 4 (mem_of (by kernel_rfl)))
      with_reducible refine op_meetIn 4 false e4 ?_ ?_ ?_ ?_
      · decide
      · rfl
      · rfl
      refine op_in (ro := none) ?_ ?_
      · intro c h; cases h
      intro K hK
      have r0 := hR.1
      have r1 := hR.2.1
      have r2 := hR.2.2.1
      have r3 := hR.2.2.2.1
      have r4 := hR.2.2.2.2.1
      have r5 := hR.2.2.2.2.2.1
      have r6 := hR.2.2.2.2.2.2.1
      have r7 := hR.2.2.2.2.2.2.2.1
      have r8 := hR.2.2.2.2.2.2.2.2.1
      have r9 := hR.2.2.2.2.2.2.2.2.2.1
      have r10 := hR.2.2.2.2.2.2.2.2.2.2
      have h8 : done' 8 = false := by
        cases h : done' 8 with
        | false => rfl
        | true => rw [hclo 8 _ rfl h 6 (mem_of (by kernel_rfl))] at hd; cases hd
      have hg := (r7 h8).1
      have r7' := (r7 h8).2
      simp only [fillL, List.setIfInBounds_toArray, List.set_cons_zero, List.set_cons_succ, Nat.zero_add, Nat.reduceAdd, e4] at hK ⊢
      go_simp
      exact hK _ _ ⟨r0.keep (by decide), r1.keep (by decide), r2.keep (by decide), r3.keep (by decide), r4.keep (by decide), r5.keep (by decide), Vl.new rfl, fun _ => ⟨hg, r7'.keep (by decide)⟩, r8.keep (by decide), r9.keep (by decide), r10.keep (by decide)⟩
    · intro u done' W' hd hanc hclo hR
      have e4 : u 4 = _ := hR.2.2.2.2.1 (hanc 4 (mem_of (by kernel_rfl)))
      with_reducible refine op_meetIn 4 false e4 ?_ ?_ ?_ ?_
      · decide
      · rfl
      · rfl
      refine op_in (ro := none) ?_ ?_
      · intro c h; cases h
      intro K hK
      have r0 := hR.1
      have r1 := hR.2.1
      have r2 := hR.2.2.1
      have r3 := hR.2.2.2.1
      have r4 := hR.2.2.2.2.1
      have r5 := hR.2.2.2.2.2.1
      have r6 := hR.2.2.2.2.2.2.1
      have r7 := hR.2.2.2.2.2.2.2.1
      have r8 := hR.2.2.2.2.2.2.2.2.1
      have r9 := hR.2.2.2.2.2.2.2.2.2.1
      have r10 := hR.2.2.2.2.2.2.2.2.2.2
      have h8 : done' 8 = false := by
        cases h : done' 8 with
        | false => rfl
        | true => rw [hclo 8 _ rfl h 7 (mem_of (by kernel_rfl))] at hd; cases hd
      have hg := (r7 h8).1
      have r7' := (r7 h8).2
      have e6 : u 6 = _ := r6 (hanc 6 (mem_of (by kernel_rfl)))
      simp only [fillL, List.setIfInBounds_toArray, List.set_cons_zero, List.set_cons_succ, Nat.zero_add, Nat.reduceAdd, e4, e6] at hK ⊢
      have hcon := clone_any (some ⟨q.p, 0, none⟩) q.n q.n pre W' (hints.gr hg) H.n1 (by omega)
      have HCON := Lib.hid hcon
      clear hcon
      go_simp
      refine HCON.out.mono ?_
      rintro e w2 ⟨g, c, rfl, hge, hi2, hg2, his3⟩
      rw [hl] at hi2 ⊢
      have h8s : Vl done' u 8 (LeafOut q J Jx pre (done ++ [pre]) w2) := fun h => by rw [h8] at h; cases h
      have h9s : Vl done' u 9 (LeafOut q J Jx pre (done ++ [pre]) w2) := fun h => by have := hclo 9 _ rfl h 8 (mem_of (by kernel_rfl)); rw [h8] at this; cases this
      have h10s : Vl done' u 10 (LeafOut q J Jx pre (done ++ [pre]) w2) := fun h => by have := hclo 10 _ rfl h 8 (mem_of (by kernel_rfl)); rw [h8] at this; cases this
      exact hK _ _ ⟨r0.keep (by decide), r1.keep (by decide), r2.keep (by decide), r3.keep (by decide), r4.keep (by decide), r5.keep (by decide), r6.keep (by decide), fun _ => ⟨hg.trans hg2, Vl.new ⟨g, c, rfl, Nat.le_trans hg.size hge, hi2, his3⟩⟩, h8s.keep (by decide), h9s.keep (by decide), h10s.keep (by decide)⟩
    · intro u done' W' hd hanc hclo hR
      have e4 : u 4 = _ := hR.2.2.2.2.1 (hanc 4 (mem_of (by kernel_rfl)))
      with_reducible refine op_meetIn 4 false e4 ?_ ?_ rfl ?_
      · decide
      · rfl
      have r0 := hR.1
      have r1 := hR.2.1
      have r2 := hR.2.2.1
      have r3 := hR.2.2.2.1
      have r4 := hR.2.2.2.2.1
      have r5 := hR.2.2.2.2.2.1
      have r6 := hR.2.2.2.2.2.2.1
      have r7 := hR.2.2.2.2.2.2.2.1
      have r8 := hR.2.2.2.2.2.2.2.2.1
      have r9 := hR.2.2.2.2.2.2.2.2.2.1
      have r10 := hR.2.2.2.2.2.2.2.2.2.2
      have h8 : done' 8 = false := hd
      have hg := (r7 h8).1
      have r7' := (r7 h8).2
      have e5 : u 5 = _ := r5 (hanc 5 (mem_of (by kernel_rfl)))
      refine Exists.elim (r7' (hanc 7 (mem_of (by kernel_rfl)))) fun g hg1 => ?_
      refine Exists.elim hg1 fun c hg2 => ?_
      have e7 := hg2.1
      have hge := hg2.2.1
      have hi7 := hg2.2.2.1
      have ht7 := hg2.2.2.2
      have hyd := H.hY done pre rest W' ⟨g, 0, none⟩ c (H.hJ _ _ _ hJ (hg.only _)) (H.env _ _ hE (hg.only _)) hi7 ht7 (Nat.lt_of_lt_of_le hE.pl hge) (by rw [hall, henum.out]; rfl) hst hb
      have hbuf : W'.heap[q.p]? = W.heap[q.p]? := hg.below.block _ hE.pl
      refine op_yield (ro := none) rfl (v := .slice (some ⟨g, 0, none⟩) q.n c) ?_ ?_ hyd ?_ ?_
      · simp only [fillL, List.setIfInBounds_toArray, List.set_cons_zero, List.set_cons_succ, Nat.zero_add, Nat.reduceAdd, e4, e5, e7]; rfl
      · simp only [fillL, List.setIfInBounds_toArray, List.set_cons_zero, List.set_cons_succ, Nat.zero_add, Nat.reduceAdd, e4, e5, e7]; rfl
      · rintro e W2 (⟨rfl, _⟩ | ⟨rfl, _⟩) <;> exact ⟨_, rfl⟩
      · rintro v' W2 hv
        refine ⟨v', rfl, ?_⟩
        have hout : LeafOut q J Jx pre (done ++ [pre]) W2 v' := by
          rcases hv with ⟨h, hJ2, hO2⟩ | ⟨h, hx2⟩
          · injection h with h
            subst h
            obtain ⟨rst, hbk, hrl⟩ := hB
            exact .inl ⟨rfl, hJ2, H.env _ _ (H.env _ _ hE (hg.only _)) (hO2.mono (fun _ _ h => .inl h)), rst, (hO2.block _ (Nat.lt_of_lt_of_le hE.pl hg.size) H.yp).trans (hbuf.trans hbk), hrl⟩
          · injection h with h
            exact .inr ⟨h, hx2⟩
        have h9s : Vl done' u 9 (LeafOut q J Jx pre (done ++ [pre]) W2) := fun h => by have := hclo 9 _ rfl h 8 (mem_of (by kernel_rfl)); rw [h8] at this; cases this
        have h10s : Vl done' u 10 (LeafOut q J Jx pre (done ++ [pre]) W2) := fun h => by have := hclo 10 _ rfl h 8 (mem_of (by kernel_rfl)); rw [h8] at this; cases this
        exact ⟨r0.keep (by decide), r1.keep (by decide), r2.keep (by decide), r3.keep (by decide), r4.keep (by decide), r5.keep (by decide), r6.keep (by decide), (fun h => by rw [upd_self] at h; cases h), Vl.new hout, h9s.keep (by decide), h10s.keep (by decide)⟩
    · rintro u done' W' hd hanc hclo ⟨r0, r1, r2, r3, r4, r5, r6, r7, r8, r9, r10⟩
      obtain ⟨b, e8, hO⟩ : ∃ b : Bool, u 8 = .bool b ∧ LeafOut q J Jx pre (done ++ [pre]) W' (.bool b) := by
        have := r8 (hanc 8 (mem_of (by kernel_rfl)))
        rcases this with ⟨h, h'⟩ | ⟨h, h'⟩
        · exact ⟨true, h, .inl ⟨rfl, h'⟩⟩
        · exact ⟨false, h, .inr ⟨rfl, h'⟩⟩
      have e4 : u 4 = _ := r4 (hanc 4 (mem_of (by kernel_rfl)))
      refine op_plain (ro := none) rfl (fun c h => by cases h) fun K hK => ?_
      simp only [fillL, List.setIfInBounds_toArray, List.set_cons_zero, List.set_cons_succ, Nat.zero_add, Nat.reduceAdd, e4, e8] at hK ⊢
      go_simp
      exact hK _ _ ⟨r0.keep (by decide), r1.keep (by decide), r2.keep (by decide), r3.keep (by decide), r4.keep (by decide), r5.keep (by decide), r6.keep (by decide), (fun h => by rw [upd_ne (by decide), hanc 8 (mem_of (by kernel_rfl))] at h; cases h), r8.keep (by decide), Vl.new hO, r10.keep (by decide)⟩
    · rintro u done' W' hd hanc hclo ⟨r0, r1, r2, r3, r4, r5, r6, r7, r8, r9, r10⟩
      obtain ⟨b, e9, hO⟩ : ∃ b : Bool, u 9 = .bool b ∧ LeafOut q J Jx pre (done ++ [pre]) W' (.bool b) := by
        have := r9 (hanc 9 (mem_of (by kernel_rfl)))
        rcases this with ⟨h, h'⟩ | ⟨h, h'⟩
        · exact ⟨true, h, .inl ⟨rfl, h'⟩⟩
        · exact ⟨false, h, .inr ⟨rfl, h'⟩⟩
      refine op_plain (ro := none) rfl (fun c h => by cases h) fun K hK => ?_
      simp only [fillL, List.setIfInBounds_toArray, List.set_cons_zero, List.set_cons_succ, Nat.zero_add, Nat.reduceAdd, e9] at hK ⊢
      go_simp
      exact hK _ _ ⟨r0.keep (by decide), r1.keep (by decide), r2.keep (by decide), r3.keep (by decide), r4.keep (by decide), r5.keep (by decide), r6.keep (by decide), (fun h => by rw [upd_ne (by decide), hanc 8 (mem_of (by kernel_rfl))] at h; cases h), r8.keep (by decide), r9.keep (by decide), Vl.new hO⟩
    · rintro u W' ⟨done', hdn, r0, r1, r2, r3, r4, r5, r6, r7, r8, r9, r10⟩
      have h10 := r10 (hdn 10 (by decide))
      simp only [fillL, List.setIfInBounds_toArray, List.set_cons_zero, List.set_cons_succ, Nat.zero_add, Nat.reduceAdd]
      rcases h10 with ⟨h, h'⟩ | ⟨h, h'⟩
      · rw [h]
        go_wp2
        go_ret
        exact .inl ⟨rfl, by rw [henum.out]; exact h'⟩
      · rw [h]
        go_wp2
        go_ret
        exact .inr ⟨rfl, h'⟩
end
section
set_option linter.unusedVariables false
open Go.RowKit

theorem wp_append_room {P : Program} {w : World} {o : Oper} {a : Act} {K : Act → World → Prop} {Q : Exit → Act → World → Prop} (s x : Operand) (t e : TypeId) (i : TypeInfo)
    (ho : o.op = .call { callee := .builtin .append, args := #[s, x], argTypes := #[t, t] }) (ht : P.underlying t = some (.slice e)) (hi : P.info? e = some i) (g sLen sCap : Nat) (cur : Array Value)
    (hs : a.eval s = .slice (some ⟨g, 0, none⟩) sLen sCap) (hg : w.heap[g]? = some (.cells cur e (0, 0))) (ad : Addr) (m c : Nat) (news : List Value) (hx : a.eval x = .slice (some ad) m c)
    (hl : news.length = m * i.size) (hnews : ∀ j u, news[j]? = some u → w.cell? (ad.add j) = some u) (h1 : ∀ u ∈ news, u.oneCell' = true) (hroom : sLen + m ≤ sCap) (hfit : sLen * i.size + news.length ≤ cur.size)
    (h : K (a.put o.dst (.slice (some ⟨g, 0, none⟩) (sLen + m) sCap)) (w.setRow g (cur.toList.take (sLen * i.size) ++ news ++ cur.toList.drop (sLen * i.size + news.length)).toArray)) : o.wp P a w K Q := by
  have hrun := run_append_room (P := P) w t o.type e i ht hi g sLen sCap cur hg ad m c news hl hnews h1 hroom hfit
  unfold Oper.wp execOp
  simp only [ho, resolve, invoke, builtin, Sem.run_bind, Sem.run_pure, Result.andThen_ok, List.map_toArray, List.map_cons, List.map_nil, hs, hx, hrun]
  exact h

theorem setRow_only {w : World} {g : Nat} {cur arr : Array Value} {e : TypeId} (hg : w.heap[g]? = some (.cells cur e (0, 0))) : Only (fun b => b = g) w (w.setRow g arr) ∧ (w.setRow g arr).heap[g]? = some (.cells arr e (0, 0)) := by
  refine ⟨⟨rfl, rfl, rfl, by simp [World.setRow], fun b _ hne => ?_⟩, ?_⟩
  · simp [World.setRow, Array.getElem?_modify, Ne.symm hne]
  · simp [World.setRow, Array.getElem?_modify, hg]

/-- one more number in the buffer -/
theorem Buf.push {q : NP} {W : World} {pre : List Int} {v : Int} (h : Buf q W pre) (hlt : pre.length < q.n) :
    ∃ cur : Array Value, W.heap[q.p]? = some (.cells cur 3 (0, 0)) ∧ cur.size = q.n ∧ (cur.toList.take (pre.length * 1) ++ [Value.int .i64 v] ++ cur.toList.drop (pre.length * 1 + 1)).toArray = ((pre ++ [v]).map (Value.int .i64) ++ cur.toList.drop (pre.length + 1)).toArray := by
  obtain ⟨rest, hb, hl⟩ := h
  refine ⟨_, hb, by simp; omega, ?_⟩
  congr 1
  simp

theorem Buf.shorten {q : NP} {W : World} {pre : List Int} {v : Int} (h : Buf q W (pre ++ [v])) : Buf q W pre := by
  obtain ⟨rest, hb, hl⟩ := h
  refine ⟨.int .i64 v :: rest, ?_, ?_⟩
  · rw [hb]; simp
  · simp at hl ⊢; omega
end
section
open Go.RowKit

/-- where operation j has run and vs says its value, it is that -/
def Kn (vs : List (Option Value)) (done : Nat → Bool) (u : Nat → Value) : Prop := ∀ j x, vs[j]? = some (some x) → done j = true → u j = x
theorem Kn.get {vs : List (Option Value)} {done : Nat → Bool} {u : Nat → Value} (h : Kn vs done u) (j : Nat) {x : Value} (hv : vs[j]? = some (some x)) (hd : done j = true) : u j = x := h j x hv hd
theorem Kn.start (vs : List (Option Value)) (u : Nat → Value) : Kn vs (fun _ => false) u := fun _ _ _ h => by cases h
theorem Kn.new {vs : List (Option Value)} {done : Nat → Bool} {u : Nat → Value} (h : Kn vs done u) {i : Nat} {v : Value} (hv : vs[i]? = some (some v)) : Kn vs (upd done i) (fun j => if j = i then v else u j) := by
  intro j x hj hd
  by_cases e : j = i
  · subst e; rw [hv] at hj; simp at hj; simp [hj]
  · simp only [upd, if_neg e] at hd ⊢; exact h j x hj hd
theorem Kn.skip {vs : List (Option Value)} {done : Nat → Bool} {u : Nat → Value} (h : Kn vs done u) {i : Nat} {v : Value} (hv : vs[i]? = some none) : Kn vs (upd done i) (fun j => if j = i then v else u j) := by
  intro j x hj hd
  by_cases e : j = i
  · subst e; rw [hv] at hj; simp at hj
  · simp only [upd, if_neg e] at hd ⊢; exact h j x hj hd
/-- an operation that comes before one that has not run -/
theorem not_done {l : List Oper} {done : Nat → Bool} (hclo : ∀ j oj, l[j]? = some oj → done j = true → ∀ k ∈ anc l l.length (fore oj), done k = true) {i : Nat} (hd : done i = false) (j : Nat) {oj : Oper} (ho : l[j]? = some oj)
    (hc : (anc l l.length (fore oj)).contains i = true) : done j = false := by
  cases h : done j with
  | false => rfl
  | true => rw [hclo j _ ho h i (mem_of hc)] at hd; cases hd
end
section
open Go.RowKit

/-- what has come of the versions below i -/
def enumTo (f : Fl) (lo hi : List Int) (k : Nat) (pre : List Int) (i : Nat) : List (List Int) := (List.range i).flatMap fun (j : Nat) => enum f lo hi k (pre ++ [lo[pre.length]?.getD 0 + (j : Int)])

theorem enumTo_succ (f : Fl) (lo hi : List Int) (k : Nat) (pre : List Int) (i : Nat) : enumTo f lo hi k pre (i + 1) = enumTo f lo hi k pre i ++ enum f lo hi k (pre ++ [lo[pre.length]?.getD 0 + (i : Int)]) := by
  simp [enumTo, List.range_succ]
theorem enum_split (f : Fl) (lo hi : List Int) (k : Nat) (pre : List Int) (i : Nat) (h : i < (hi[pre.length]?.getD 0 - lo[pre.length]?.getD 0 + 1).toNat) :
    ∃ r, enum f lo hi (k + 1) pre = enumTo f lo hi k pre i ++ (enum f lo hi k (pre ++ [lo[pre.length]?.getD 0 + (i : Int)]) ++ r) := by
  show ∃ r, enumTo f lo hi k pre _ = _
  generalize (hi[pre.length]?.getD 0 - lo[pre.length]?.getD 0 + 1).toNat = m at h
  induction m with
  | zero => omega
  | succ m ih =>
    by_cases e : i = m
    · subst e; exact ⟨[], by rw [enumTo_succ]; simp⟩
    · obtain ⟨r, hr⟩ := ih (by omega)
      exact ⟨r ++ enum f lo hi k (pre ++ [lo[pre.length]?.getD 0 + (m : Int)]), by rw [enumTo_succ, hr]; simp⟩

def StepOut (q : NP) (J : List (List Int) → World → Prop) (Jx : World → Prop) (pre : List Int) (done : List (List Int)) (W' : World) (b : Bool) : Prop :=
  (b = true ∧ J done W' ∧ NEnv q W' ∧ Buf q W' pre) ∨ (b = false ∧ Jx W')

/-- the new number as a slice of its own -/
def StepOne (w W' : World) (v : Int) (x : Value) : Prop := ∃ g, x = .slice (some ⟨g, 0, none⟩) 1 1 ∧ w.heap.size ≤ g ∧ W'.cell? ⟨g, 0, none⟩ = some (.int .i64 v)

structure R7 (q : NP) (J : List (List Int) → World → Prop) (Jx : World → Prop) (pre : List Int) (out : List (List Int)) (wr : World) (v : Int) (done : Nat → Bool) (u : Nat → Value) (W : World) : Prop where
  only : done 5 = false → Only (fun b => b = q.p) wr W
  gr : done 4 = false → Gr wr W
  one : done 4 = false → done 3 = true → StepOne wr W v (u 3)
  buf : done 5 = false → done 4 = true → Buf q W (pre ++ [v])
  fin : done 5 = true → ∃ b, u 5 = .bool b ∧ StepOut q J Jx pre out W b ∧ (done 6 = true → u 6 = .bool (!b))

theorem R7.quiet {q : NP} {J : List (List Int) → World → Prop} {Jx : World → Prop} {pre : List Int} {out : List (List Int)} {wr : World} {v : Int} {done : Nat → Bool} {u : Nat → Value} {W : World} (h : R7 q J Jx pre out wr v done u W) {i : Nat} (hi : i < 3) (x : Value) :
    R7 q J Jx pre out wr v (upd done i) (fun j => if j = i then x else u j) W := by
  have e3 : (3 : Nat) ≠ i := by omega
  have e4 : (4 : Nat) ≠ i := by omega
  have e5 : (5 : Nat) ≠ i := by omega
  have e6 : (6 : Nat) ≠ i := by omega
  refine ⟨?_, ?_, ?_, ?_, ?_⟩ <;> simp only [upd_ne e3, upd_ne e4, upd_ne e5, upd_ne e6, if_neg e3, if_neg e5, if_neg e6]
  · exact h.only
  · exact h.gr
  · exact h.one
  · exact h.buf
  · exact h.fin
end
section
open Go.RowKit

set_option maxHeartbeats 1000000 in
theorem next_step (q : NP) (Y : Nat → Prop) (J : List (List Int) → World → Prop) (Jx : World → Prop) (all : List (List Int)) (H : NHyp q Y J Jx all) (k : Nat) (pre : List Int) (done rest : List (List Int)) (W : World)
    (ih : ∀ (v : Int) (done rest : List (List Int)) (W : World), (0 ≤ v ∧ v ≤ ((q.f.times[pre.length]?.getD []).length : Int)) → NEnv q W → Buf q W (pre ++ [v]) → J done W → all = done ++ (enum q.f q.lo q.hi k (pre ++ [v]) ++ rest) →
      Calls Try.prog 95 #[.slice (some ⟨q.p, 0, none⟩) (pre.length + 1) q.n, .pointer (some ⟨q.bfr, 0, none⟩), .pointer (some ⟨q.bfl, 0, none⟩), .pointer (some ⟨q.by_, 0, none⟩), .pointer (some ⟨q.bto, 0, none⟩), .pointer (some ⟨q.bn, 0, none⟩)] W
        (NPost q J Jx (pre ++ [v]) (done ++ enum q.f q.lo q.hi k (pre ++ [v]))))
    (hl : pre.length + (k + 1) = q.n) (hE : NEnv q W) (hB : Buf q W pre) (hJ : J done W) (hall : all = done ++ (enum q.f q.lo q.hi (k + 1) pre ++ rest)) :
    Calls Try.prog 95 #[.slice (some ⟨q.p, 0, none⟩) pre.length q.n, .pointer (some ⟨q.bfr, 0, none⟩), .pointer (some ⟨q.bfl, 0, none⟩), .pointer (some ⟨q.by_, 0, none⟩), .pointer (some ⟨q.bto, 0, none⟩), .pointer (some ⟨q.bn, 0, none⟩)] W
      (NPost q J Jx pre (done ++ enum q.f q.lo q.hi (k + 1) pre)) := by
  have hn6 : q.n ≤ 6 := by have := H.ok.n6; have := H.nt; omega
  have hcfr := hE.cfr
  have hlt : pre.length < q.n := by omega
  have hne : ((pre.length : Int) == (q.n : Int)) = false := by rw [beq_eq_false_iff_ne]; omega
  obtain ⟨fa, hfa, hfb, hfc⟩ := hE.ilo.at hlt
  have hlo0 := H.lo0 _ hlt
  have hhi1 := H.hi1 _ hlt
  have hrow := H.ok.row pre.length (by rw [← H.nt]; exact hlt)
  rw [hfa] at hcfr
  have IH := Lib.hid ih
  have HALL := Lib.hid hall
  have HL := Lib.hid hl
  clear ih hall hl
  go_enter Try.func95, Try.ntmps95
  go_wp2_with fail
  go_loopw [9] (fun x wr => ∃ i : Nat, i ≤ (q.hi[pre.length]?.getD 0 - q.lo[pre.length]?.getD 0 + 1).toNat ∧ x = .int .i64 (q.lo[pre.length]?.getD 0 + (i : Int)) ∧ Hid (J (done ++ enumTo q.f q.lo q.hi k pre i) wr) ∧ NEnv q wr ∧ Buf q wr pre) (fun x _ => (q.hi[pre.length]?.getD 0 + 1 - intOf x).toNat)
  case atStart => exact ⟨0, Nat.zero_le _, by simp, Lib.hid (by simpa [enumTo] using hJ), hE, hB⟩
  case round =>
    obtain ⟨i, hi, rfl, hJr, hEr, hBr⟩ := hrel
    have hcto := hEr.cto
    obtain ⟨ha, hha, hhb, hhc⟩ := hEr.ihi.at hlt
    by_cases hle : q.lo[pre.length]?.getD 0 + (i : Int) ≤ q.hi[pre.length]?.getD 0
    · have hM : i < (q.hi[pre.length]?.getD 0 - q.lo[pre.length]?.getD 0 + 1).toNat := by omega
      have hsp := Lib.hid (enum_split q.f q.lo q.hi k pre i hM)
      have hsu := Lib.hid (enumTo_succ q.f q.lo q.hi k pre i)
      rw [hha] at hcto
      generalize hv : q.lo[pre.length]?.getD 0 + (i : Int) = v at *
      have hv0 : 0 ≤ v ∧ v ≤ ((q.f.times[pre.length]?.getD []).length : Int) := by omega
      have HV := Lib.hid hv
      clear hv
      go_wp2_with fail
      refine (wpIn_wide (n := 0)).1 ?_
      refine region_inv (F := Fence.wide) (by kernel_rfl) (by rfl) (by decide) (fun _ => trivial)
        (fun done' u W' => Kn [some (.func (.func 95) #[] #[.pointer (some ⟨q.bfr, 0, none⟩), .pointer (some ⟨q.bfl, 0, none⟩), .pointer (some ⟨q.by_, 0, none⟩), .pointer (some ⟨q.bto, 0, none⟩), .pointer (some ⟨q.bn, 0, none⟩)]), some (.slice (some ⟨q.p, 0, none⟩) pre.length q.n), some (.int .i64 v), none, some (.slice (some ⟨q.p, 0, none⟩) (pre.length + 1) q.n), none, none] done' u ∧
          R7 q J Jx pre (done ++ enumTo q.f q.lo q.hi k pre (i + 1)) wr v done' u W')
        (fun u => ⟨Kn.start _ _, ⟨fun _ => (Gr.drew wr).only _, fun _ => Gr.drew wr, (fun _ h => by cases h), (fun _ h => by cases h), (fun h => by cases h)⟩⟩) ⟨?_, ?_, ?_, ?_, ?_, ?_, ?_, trivial⟩ ?_
      · rintro u done' W' hd hanc hclo ⟨hk, hR⟩
        have hc := (H.env _ _ hEr ((hR.only (not_done hclo hd 5 rfl (by kernel_rfl))).mono (fun _ _ h => .inr h))).cn_
        refine op_plain (ro := none) rfl (fun c h => by cases h) fun K hK => ?_
        simp only [fillL, List.setIfInBounds_toArray, List.set_cons_zero, List.set_cons_succ, Nat.zero_add, Nat.reduceAdd] at hK ⊢
        go_simp
        exact hK _ _ ⟨hk.new rfl, hR.quiet (by decide) _⟩
      · rintro u done' W' hd hanc hclo ⟨hk, hR⟩
        refine op_plain (ro := none) rfl (fun c h => by cases h) fun K hK => ?_
        simp only [fillL, List.setIfInBounds_toArray, List.set_cons_zero, List.set_cons_succ, Nat.zero_add, Nat.reduceAdd] at hK ⊢
        go_simp
        exact hK _ _ ⟨hk.new rfl, hR.quiet (by decide) _⟩
      · rintro u done' W' hd hanc hclo ⟨hk, hR⟩
        refine op_plain (ro := none) rfl (fun c h => by cases h) fun K hK => ?_
        simp only [fillL, List.setIfInBounds_toArray, List.set_cons_zero, List.set_cons_succ, Nat.zero_add, Nat.reduceAdd] at hK ⊢
        go_simp
        exact hK _ _ ⟨hk.new rfl, hR.quiet (by decide) _⟩
      · rintro u done' W' hd hanc hclo ⟨hk, hR⟩
        have e2 := hk.get 2 rfl (hanc 2 (mem_of (by kernel_rfl)))
        have h4 : done' 4 = false := not_done hclo hd 4 rfl (by kernel_rfl)
        have h5 : done' 5 = false := not_done hclo hd 5 rfl (by kernel_rfl)
        have hg := hR.gr h4
        refine op_plain (ro := none) rfl (fun c h => by cases h) fun K hK => ?_
        simp only [fillL, List.setIfInBounds_toArray, List.set_cons_zero, List.set_cons_succ, Nat.zero_add, Nat.reduceAdd, e2] at hK ⊢
        go_simp
        refine hK _ _ ⟨hk.skip rfl, ⟨fun _ => (hg.allocR _).only _, fun _ => hg.allocR _, fun _ _ => ⟨_, rfl, hg.size, ?_⟩, (fun _ h => by rw [upd_ne (by decide), h4] at h; cases h), (fun h => by rw [upd_ne (by decide), h5] at h; cases h)⟩⟩
        simp
      · rintro u done' W' hd hanc hclo ⟨hk, hR⟩
        have e1 := hk.get 1 rfl (hanc 1 (mem_of (by kernel_rfl)))
        have h5 : done' 5 = false := not_done hclo hd 5 rfl (by kernel_rfl)
        have hg := hR.gr hd
        obtain ⟨g, e3, hge, hgc⟩ := hR.one hd (hanc 3 (mem_of (by kernel_rfl)))
        obtain ⟨i0, hi0, hz0, hz1, hz2⟩ := info_parts Try.info3
        have hbW : Buf q W' pre := by
          obtain ⟨rst, hbk, hrl⟩ := hBr
          exact ⟨rst, (hg.below.block _ hEr.pl).trans hbk, hrl⟩
        obtain ⟨cur, hcb, hcs, hce⟩ := hbW.push (v := v) hlt
        refine op_plain (ro := none) rfl (fun c h => by cases h) fun K hK => ?_
        simp only [fillL, List.setIfInBounds_toArray, List.set_cons_zero, List.set_cons_succ, Nat.zero_add, Nat.reduceAdd, e1, e3] at hK ⊢
        refine wp_append_room (P := Try.prog) _ _ 26 3 i0 rfl Try.underlying26 hi0 q.p pre.length q.n cur rfl hcb ⟨g, 0, none⟩ 1 1 [.int .i64 v] rfl (by rw [hz1]; rfl) ?_ (by simp [Value.oneCell']) (by omega) (by rw [hz1]; simp; omega) ?_
        · intro j u hj
          cases j with
          | zero => simp at hj; subst hj; exact hgc
          | succ j => simp at hj
        · rw [hz1]
          simp only [List.length_singleton]
          rw [hce]
          have hs := setRow_only (arr := ((pre ++ [v]).map (Value.int .i64) ++ cur.toList.drop (pre.length + 1)).toArray) hcb
          refine hK _ _ ⟨hk.new rfl, ⟨fun _ => (hg.only _).trans hs.1, (fun h => by rw [upd_self] at h; cases h), (fun h => by rw [upd_self] at h; cases h), fun _ _ => ⟨_, hs.2, ?_⟩, (fun h => by rw [upd_ne (by decide), h5] at h; cases h)⟩⟩
          simp [hcs]; omega
      · rintro u done' W' hd hanc hclo ⟨hk, hR⟩
        have e0 := hk.get 0 rfl (hanc 0 (mem_of (by kernel_rfl)))
        have e4 := hk.get 4 rfl (hanc 4 (mem_of (by kernel_rfl)))
        have ho := hR.only hd
        have hb := hR.buf hd (hanc 4 (mem_of (by kernel_rfl)))
        have hEn := H.env _ _ hEr (ho.mono (fun _ _ h => .inr h))
        have hJn := H.hJ _ _ _ hJr.out ho
        obtain ⟨r, hr⟩ := hsp.out
        have hcon := IH.out v (done ++ enumTo q.f q.lo q.hi k pre i) (r ++ rest) W' hv0 hEn hb hJn (by rw [HALL.out, hr]; simp)
        have HCON := Lib.hid hcon
        have h6 : done' 6 = false := not_done hclo hd 6 rfl (by kernel_rfl)
        clear hcon hr
        refine op_plain (ro := none) rfl (fun c h => by cases h) fun K hK => ?_
        simp only [fillL, List.setIfInBounds_toArray, List.set_cons_zero, List.set_cons_succ, Nat.zero_add, Nat.reduceAdd, e0, e4] at hK ⊢
        go_simp
        refine HCON.out.mono ?_
        rintro e w2 hpost
        have hout : ∃ b, e = .returned (.bool b) ∧ StepOut q J Jx pre (done ++ enumTo q.f q.lo q.hi k pre (i + 1)) w2 b := by
          rcases hpost with ⟨h, hj, he, hb⟩ | ⟨h, hx⟩
          · exact ⟨true, h, .inl ⟨rfl, by rw [hsu.out, ← List.append_assoc]; exact hj, he, hb.shorten⟩⟩
          · exact ⟨false, h, .inr ⟨rfl, hx⟩⟩
        obtain ⟨b, rfl, hso⟩ := hout
        exact hK _ _ ⟨hk.skip rfl, ⟨(fun h => by rw [upd_self] at h; cases h), (fun h => by rw [upd_ne (by decide), hanc 4 (mem_of (by kernel_rfl))] at h; cases h), (fun h => by rw [upd_ne (by decide), hanc 4 (mem_of (by kernel_rfl))] at h; cases h), (fun h => by rw [upd_self] at h; cases h),
          fun _ => ⟨b, rfl, hso, fun h => by rw [upd_ne (by decide), h6] at h; cases h⟩⟩⟩
      · rintro u done' W' hd hanc hclo ⟨hk, hR⟩
        obtain ⟨b, e5, hso, _⟩ := hR.fin (hanc 5 (mem_of (by kernel_rfl)))
        refine op_plain (ro := none) rfl (fun c h => by cases h) fun K hK => ?_
        simp only [fillL, List.setIfInBounds_toArray, List.set_cons_zero, List.set_cons_succ, Nat.zero_add, Nat.reduceAdd, e5] at hK ⊢
        go_simp
        exact hK _ _ ⟨hk.skip rfl, ⟨(fun h => by rw [upd_ne (by decide), hanc 5 (mem_of (by kernel_rfl))] at h; cases h), (fun h => by rw [upd_ne (by decide), hanc 4 (mem_of (by kernel_rfl))] at h; cases h), (fun h => by rw [upd_ne (by decide), hanc 4 (mem_of (by kernel_rfl))] at h; cases h), (fun h => by rw [upd_ne (by decide), hanc 5 (mem_of (by kernel_rfl))] at h; cases h),
          fun _ => ⟨b, by simpa using e5, hso, fun _ => by simp⟩⟩⟩
      · rintro u W' ⟨done', hdn, hk, hR⟩
        obtain ⟨b, e5, hso, h6⟩ := hR.fin (hdn 5 (by decide))
        have e6 := h6 (hdn 6 (by decide))
        simp only [fillL, List.setIfInBounds_toArray, List.set_cons_zero, List.set_cons_succ, Nat.zero_add, Nat.reduceAdd, e6]
        rcases hso with ⟨rfl, hj, he, hb⟩ | ⟨rfl, hx⟩
        · have HJ := Lib.hid hj
          clear hj
          go_wp2
          go_roundw
          case rel => exact ⟨i + 1, by omega, by rw [← HV.out]; go_num, HJ, he, hb⟩
          case measure => simp [intOf]; omega
        · go_wp2
          go_ret
          exact .inr ⟨rfl, hx⟩
    · have hM : i = (q.hi[pre.length]?.getD 0 - q.lo[pre.length]?.getD 0 + 1).toNat := by omega
      have hfin : Hid (enum q.f q.lo q.hi (k + 1) pre = enumTo q.f q.lo q.hi k pre i) := Lib.hid (by rw [hM]; rfl)
      have HM := Lib.hid hM
      clear hM
      rw [hha] at hcto
      go_wp2_with fail
      go_ret
      exact .inl ⟨rfl, by rw [hfin.out]; exact hJr.out, hEr, hBr⟩
end
section
open Go.RowKit

theorem next_any (q : NP) (Y : Nat → Prop) (J : List (List Int) → World → Prop) (Jx : World → Prop) (all : List (List Int)) (H : NHyp q Y J Jx all) : ∀ (k : Nat) (pre : List Int) (done rest : List (List Int)) (W : World),
    pre.length + k = q.n → (∀ c, c < pre.length → 0 ≤ pre[c]?.getD 0 ∧ pre[c]?.getD 0 ≤ ((q.f.times[c]?.getD []).length : Int)) → NEnv q W → Buf q W pre → J done W → all = done ++ (enum q.f q.lo q.hi k pre ++ rest) →
    Calls Try.prog 95 #[.slice (some ⟨q.p, 0, none⟩) pre.length q.n, .pointer (some ⟨q.bfr, 0, none⟩), .pointer (some ⟨q.bfl, 0, none⟩), .pointer (some ⟨q.by_, 0, none⟩), .pointer (some ⟨q.bto, 0, none⟩), .pointer (some ⟨q.bn, 0, none⟩)] W
      (NPost q J Jx pre (done ++ enum q.f q.lo q.hi k pre)) := by
  intro k
  induction k with
  | zero =>
    intro pre done rest W hl hv hE hB hJ hall
    have hl' : pre.length = q.n := by omega
    have := next_leaf q Y J Jx all H pre done rest W hl' ⟨by rw [hl', H.nt], fun c hc => hv c (by rw [hl', H.nt]; exact hc)⟩ hE hB hJ hall
    rw [hl']
    exact this
  | succ k ih =>
    intro pre done rest W hl hv hE hB hJ hall
    refine next_step q Y J Jx all H k pre done rest W (fun v done rest W hvv hE hB hJ hall => ?_) hl hE hB hJ hall
    have := ih (pre ++ [v]) done rest W (by simp; omega) (fun c hc => ?_) hE hB hJ hall
    · simpa using this
    · by_cases e : c = pre.length
      · subst e; simpa using hvv
      · have hc' : c < pre.length := by simp at hc; omega
        rw [List.getElem?_append_left hc']
        exact hv c hc'

/-- what the iterator leaves: it went through, or it was stopped -/
def SPost (J : List (List Int) → World → Prop) (Jx : World → Prop) (all : List (List Int)) (e : Ending) (W' : World) : Prop := (∃ v, e = .returned v) ∧ (J all W' ∨ Jx W')

/-- the data that the iterator reads, in the world where it was made, and what may have turned since -/
structure SBase (wB : World) (S : Nat → Prop) (f : Fl) (ta : Option Addr) (tn : Nat) (ca : Option Addr) (cn : Nat) (fa toa : Option Addr) (n : Nat) (lo hi : List Int) : Prop where
  ok : FlOk f
  fl : FlAt wB ta tn ca cn f
  ilo : Ints wB fa n lo
  ihi : Ints wB toa n hi
  keep : ∀ W, Only S wB W → FlAt W ta tn ca cn f ∧ Ints W fa n lo ∧ Ints W toa n hi
  new : ∀ b, wB.heap.size ≤ b → S b
  n1 : 1 ≤ n
  nt : n = f.times.length
  lo0 : ∀ c, c < n → 0 ≤ lo[c]?.getD 0
  hi1 : ∀ c, c < n → hi[c]?.getD 0 ≤ ((f.times[c]?.getD []).length : Int)

structure R3 (q : NP) (J : List (List Int) → World → Prop) (Jx : World → Prop) (all : List (List Int)) (w2 : World) (done : Nat → Bool) (u : Nat → Value) (W : World) : Prop where
  gr : done 4 = false → Gr w2 W
  sz : done 3 = false → W.heap.size = w2.heap.size
  buf : done 4 = false → done 3 = true → Buf q W [] ∧ q.p < W.heap.size
  fin : done 4 = true → J all W ∨ Jx W

theorem R3.quiet {q : NP} {J : List (List Int) → World → Prop} {Jx : World → Prop} {all : List (List Int)} {w2 : World} {done : Nat → Bool} {u : Nat → Value} {W : World} (h : R3 q J Jx all w2 done u W) {i : Nat} (hi : i < 3) (x : Value) :
    R3 q J Jx all w2 (upd done i) (fun j => if j = i then x else u j) W := by
  have e3 : (3 : Nat) ≠ i := by omega
  have e4 : (4 : Nat) ≠ i := by omega
  refine ⟨?_, ?_, ?_, ?_⟩ <;> simp only [upd_ne e3, upd_ne e4]
  · exact h.gr
  · exact h.sz
  · exact h.buf
  · exact h.fin
end
section
open Go.RowKit

theorem cell_new {w : World} {cs : Array Value} {t : TypeId} {j : Nat} {v : Value} (h : cs[j]? = some v) : (w.alloc (.cells cs t)).cell? ⟨w.heap.size, j, none⟩ = some v := by
  have := World.alloc_heap_new w (.cells cs t)
  unfold World.cell?
  simp only [this]
  exact h

theorem run_makeSlice_ints (w : World) (n : Nat) (hn : n ≤ 6) : (Instr.makeSlice 26 (.int .i64 0) (.int .i64 (n : Int))).run Try.prog w = .ok (.slice (some ⟨w.heap.size, 0, none⟩) 0 n) (w.alloc (.cells (List.replicate n (.int .i64 0)).toArray 3)) := by
  obtain rfl | rfl | rfl | rfl | rfl | rfl | rfl : n = 0 ∨ n = 1 ∨ n = 2 ∨ n = 3 ∨ n = 4 ∨ n = 5 ∨ n = 6 := by omega
  all_goals kernel_rfl

set_option maxHeartbeats 1000000 in
theorem states1_any (wB W0 : World) (S Y : Nat → Prop) (J : List (List Int) → World → Prop) (Jx : World → Prop) (f : Fl) (ta ca fa toa : Option Addr) (tn tc cn cc n fc toc : Nat) (lo hi : List Int) (bfr bfl bto l : Nat)
    (hb : SBase wB S f ta tn ca cn fa toa n lo hi) (hbase : Only S wB W0) (hYS : ∀ b, Y b → S b) (hYlt : ∀ b, Y b → b < W0.heap.size)
    (c1 : W0.cell? ⟨bfr, 0, none⟩ = some (.slice fa n fc)) (c2 : W0.cell? ⟨bfl, 0, none⟩ = some (.slice ta tn tc)) (c3 : W0.cell? ⟨bfl, 1, none⟩ = some (.slice ca cn cc)) (c4 : W0.cell? ⟨bto, 0, none⟩ = some (.slice toa n toc))
    (n1 : ¬ Y bfr) (n2 : ¬ Y bfl) (n3 : ¬ Y bto) (hJ0 : J [] W0) (hJ : ∀ done W W', J done W → Only (fun b => b = W0.heap.size + 2) W W' → J done W') (hJx : ∀ W W', Jx W → Gr W W' → Jx W')
    (hY : ∀ done x rest W a c, J done W → Only S wB W → Ints W (some a) n x → Is3 W a.block → W0.heap.size + 2 < a.block → enum f lo hi n [] = done ++ x :: rest → StOk f x → worksB f x = true →
      YieldAt Fence.wide 0 Try.prog l #[.slice (some a) n c] W fun e W' => (e = .returned (.bool true) ∧ J (done ++ [x]) W' ∧ Only Y W W') ∨ (e = .returned (.bool false) ∧ Jx W')) :
    Calls Try.prog 94 #[.func (.yield l) #[] #[], .pointer (some ⟨bfr, 0, none⟩), .pointer (some ⟨bfl, 0, none⟩), .pointer (some ⟨bto, 0, none⟩)] W0 (SPost J Jx (enum f lo hi n [])) := by
  have hn6 : n ≤ 6 := by have := hb.ok.n6; have := hb.nt; omega
  obtain ⟨q, hq⟩ : ∃ q : NP, q = ⟨bfr, bfl, W0.heap.size, bto, W0.heap.size + 1, W0.heap.size + 2, l, fa, fc, ta, tn, tc, ca, cn, cc, toa, toc, n, f, lo, hi, wB, S⟩ := ⟨_, rfl⟩
  have hsz0 : wB.heap.size ≤ W0.heap.size := hbase.size
  have H : NHyp q Y J Jx (enum f lo hi n []) := by
    subst hq
    refine ⟨hb.ok, hb.n1, hb.nt, hb.lo0, hb.hi1, ?_, fun h => by have := hYlt _ h; simp only at this; omega, fun done W W' hj ho => hJ done W W' hj ho, hJx, ?_⟩
    · intro W W' hE ho
      have hbs : Only S wB W' := hE.base.trans (ho.mono (fun b _ h => by
        rcases h with h | h
        · exact hYS b h
        · subst h; exact hb.new _ (by simp; omega)))
      have hk : ∀ (p : Addr) (v : Value), W.cell? p = some v → ¬ Y p.block → p.block ≠ W0.heap.size + 2 → W'.cell? p = some v := fun p v hc h1 h2 => ho.cell hc (fun h => h.elim h1 h2)
      have l1 := lt_cell c1
      have l2 := lt_cell c2
      have l4 := lt_cell c4
      simp only at l1 l2 l4
      refine ⟨hk _ _ hE.cfr n1 (by simp only; omega), hk _ _ hE.cfl0 n2 (by simp only; omega), hk _ _ hE.cfl1 n2 (by simp only; omega), hk _ _ hE.cy (fun h => by have := hYlt _ h; simp only at this; omega) (by simp), hk _ _ hE.cto n3 (by simp only; omega), hk _ _ hE.cn_ (fun h => by have := hYlt _ h; simp only at this; omega) (by simp),
        (hb.keep _ hbs).1, (hb.keep _ hbs).2.1, (hb.keep _ hbs).2.2, Nat.lt_of_lt_of_le hE.pl ho.size, hbs⟩
    · intro done x rest W a c hj hE hi h3 hp hall hst hw
      exact hY done x rest W a c hj hE.base hi h3 hp hall hst hw
  obtain ⟨w2, hw2⟩ : ∃ w2, (W0.alloc (.cells #[.func (.yield l) #[] #[]] 127)).alloc (.cells #[.func (.func 95) #[] #[.pointer (some ⟨bfr, 0, none⟩), .pointer (some ⟨bfl, 0, none⟩), .pointer (some ⟨W0.heap.size, 0, none⟩), .pointer (some ⟨bto, 0, none⟩), .pointer (some ⟨W0.heap.size + 1, 0, none⟩)]] 127) = w2 := ⟨_, rfl⟩
  have g2 : Gr W0 w2 := by rw [← hw2]; exact (Gr.alloc _ _).allocR _
  have s2 : w2.heap.size = W0.heap.size + 2 := by rw [← hw2]; simp
  have cy2 : w2.cell? ⟨W0.heap.size, 0, none⟩ = some (.func (.yield l) #[] #[]) := by
    rw [← hw2, (Gr.alloc _ _).cell (by simp)]; exact cell_new rfl
  have cn2 : w2.cell? ⟨W0.heap.size + 1, 0, none⟩ = some (.func (.func 95) #[] #[.pointer (some ⟨bfr, 0, none⟩), .pointer (some ⟨bfl, 0, none⟩), .pointer (some ⟨W0.heap.size, 0, none⟩), .pointer (some ⟨bto, 0, none⟩), .pointer (some ⟨W0.heap.size + 1, 0, none⟩)]) := by
    rw [← hw2]; simp
  have c12 := (g2.cell (lt_cell c1)).trans c1
  have HQ := Lib.hid hq
  have S2 := Lib.hid s2
  go_enter Try.func94, Try.ntmps94
  go_wp2_with fail
  clear hw2
  refine (wpIn_wide (n := 0)).1 ?_
  refine region_inv (F := Fence.wide) (by kernel_rfl) (by rfl) (by decide) (fun _ => trivial)
    (fun done' u W' => Kn [some (.func (.func 95) #[] #[.pointer (some ⟨bfr, 0, none⟩), .pointer (some ⟨bfl, 0, none⟩), .pointer (some ⟨W0.heap.size, 0, none⟩), .pointer (some ⟨bto, 0, none⟩), .pointer (some ⟨W0.heap.size + 1, 0, none⟩)]), some (.slice fa n fc), some (.int .i64 (n : Int)), some (.slice (some ⟨W0.heap.size + 2, 0, none⟩) 0 n), none] done' u ∧ R3 q J Jx (enum f lo hi n []) w2 done' u W')
    (fun u => ⟨Kn.start _ _, ⟨fun _ => Gr.drew w2, fun _ => rfl, (fun _ h => by cases h), (fun h => by cases h)⟩⟩) ⟨?_, ?_, ?_, ?_, ?_, trivial⟩ ?_
  · rintro u done' W' hd hanc hclo ⟨hk, hR⟩
    have hg := hR.gr (not_done hclo hd 4 rfl (by kernel_rfl))
    have hc := (hg.cell (lt_cell cn2)).trans cn2
    refine op_plain (ro := none) rfl (fun c h => by cases h) fun K hK => ?_
    simp only [fillL, List.setIfInBounds_toArray, List.set_cons_zero, List.set_cons_succ, Nat.zero_add, Nat.reduceAdd] at hK ⊢
    go_simp
    exact hK _ _ ⟨hk.new rfl, hR.quiet (by decide) _⟩
  · rintro u done' W' hd hanc hclo ⟨hk, hR⟩
    have hg := hR.gr (not_done hclo hd 4 rfl (by kernel_rfl))
    have hc := (hg.cell (lt_cell c12)).trans c12
    refine op_plain (ro := none) rfl (fun c h => by cases h) fun K hK => ?_
    simp only [fillL, List.setIfInBounds_toArray, List.set_cons_zero, List.set_cons_succ, Nat.zero_add, Nat.reduceAdd] at hK ⊢
    go_simp
    exact hK _ _ ⟨hk.new rfl, hR.quiet (by decide) _⟩
  · rintro u done' W' hd hanc hclo ⟨hk, hR⟩
    have e1 := hk.get 1 rfl (hanc 1 (mem_of (by kernel_rfl)))
    refine op_plain (ro := none) rfl (fun c h => by cases h) fun K hK => ?_
    simp only [fillL, List.setIfInBounds_toArray, List.set_cons_zero, List.set_cons_succ, Nat.zero_add, Nat.reduceAdd, e1] at hK ⊢
    go_simp
    exact hK _ _ ⟨hk.new rfl, hR.quiet (by decide) _⟩
  · rintro u done' W' hd hanc hclo ⟨hk, hR⟩
    have e2 := hk.get 2 rfl (hanc 2 (mem_of (by kernel_rfl)))
    have h4 : done' 4 = false := not_done hclo hd 4 rfl (by kernel_rfl)
    have hg := hR.gr h4
    have hsz := (hR.sz hd).trans S2.out
    have hmk := run_makeSlice_ints W' n hn6
    rw [hsz] at hmk
    refine op_plain (ro := none) rfl (fun c h => by cases h) fun K hK => ?_
    simp only [fillL, List.setIfInBounds_toArray, List.set_cons_zero, List.set_cons_succ, Nat.zero_add, Nat.reduceAdd, e2] at hK ⊢
    have HS := Lib.hid hsz
    clear hsz
    go_simp
    refine hK _ _ ⟨hk.new rfl, ⟨fun _ => hg.allocR _, (fun h => by rw [upd_self] at h; cases h), fun _ _ => ⟨⟨List.replicate n (.int .i64 0), ?_, by rw [HQ.out]; simp⟩, ?_⟩, (fun h => by rw [upd_ne (by decide), h4] at h; cases h)⟩⟩
    · rw [HQ.out]; simp only; rw [← HS.out]; exact World.alloc_heap_new _ _
    · rw [HQ.out]; simp only [World.size_alloc]; rw [HS.out]; omega
  · rintro u done' W' hd hanc hclo ⟨hk, hR⟩
    have e0 := hk.get 0 rfl (hanc 0 (mem_of (by kernel_rfl)))
    have e3 := hk.get 3 rfl (hanc 3 (mem_of (by kernel_rfl)))
    have hg := hR.gr hd
    obtain ⟨hbuf, hpl⟩ := hR.buf hd (hanc 3 (mem_of (by kernel_rfl)))
    have hgg := g2.trans hg
    have hbs : Only S wB W' := hbase.thenGr hgg
    have hE : NEnv q W' := by
      rw [HQ.out] at hpl ⊢
      exact ⟨(hgg.cell (lt_cell c1)).trans c1, (hgg.cell (lt_cell c2)).trans c2, (hgg.cell (lt_cell c3)).trans c3, (hg.cell (lt_cell cy2)).trans cy2, (hgg.cell (lt_cell c4)).trans c4, (hg.cell (lt_cell cn2)).trans cn2, (hb.keep _ hbs).1, (hb.keep _ hbs).2.1, (hb.keep _ hbs).2.2, hpl, hbs⟩
    have hall : enum f lo hi n [] = [] ++ (enum q.f q.lo q.hi n [] ++ []) := by rw [HQ.out]; simp
    have hcon := next_any q Y J Jx (enum f lo hi n []) H n [] [] [] W' (by rw [HQ.out]; simp) (fun c h => by simp at h) hE hbuf (hJ _ _ _ hJ0 (hgg.only _)) hall
    have hpost : ∀ e W'', NPost q J Jx [] ([] ++ enum q.f q.lo q.hi n []) e W'' → (∃ v, e = .returned v) ∧ (J (enum f lo hi n []) W'' ∨ Jx W'') := by
      rw [HQ.out]
      rintro e W'' (⟨h1, h2, _⟩ | ⟨h1, h2⟩)
      · exact ⟨⟨_, h1⟩, .inl (by simpa using h2)⟩
      · exact ⟨⟨_, h1⟩, .inr h2⟩
    have hcon2 : Calls Try.prog 95 #[.slice (some ⟨W0.heap.size + 2, 0, none⟩) 0 n, .pointer (some ⟨bfr, 0, none⟩), .pointer (some ⟨bfl, 0, none⟩), .pointer (some ⟨W0.heap.size, 0, none⟩), .pointer (some ⟨bto, 0, none⟩), .pointer (some ⟨W0.heap.size + 1, 0, none⟩)] W' (fun e W'' => (∃ v, e = .returned v) ∧ (J (enum f lo hi n []) W'' ∨ Jx W'')) := by
      have := hcon.mono hpost
      rw [HQ.out] at this
      exact this
    have HCON := Lib.hid hcon2
    clear hcon hcon2 hpost hall
    refine op_plain (ro := none) rfl (fun c h => by cases h) fun K hK => ?_
    simp only [fillL, List.setIfInBounds_toArray, List.set_cons_zero, List.set_cons_succ, Nat.zero_add, Nat.reduceAdd, e0, e3] at hK ⊢
    go_simp
    refine HCON.out.mono ?_
    rintro e w3 ⟨⟨v, rfl⟩, hfin⟩
    exact hK _ _ ⟨hk.skip rfl, ⟨(fun h => by rw [upd_self] at h; cases h), (fun h => by rw [upd_ne (by decide), hanc 3 (mem_of (by kernel_rfl))] at h; cases h), (fun h => by rw [upd_self] at h; cases h), fun _ => hfin⟩⟩
  · rintro u W' ⟨done', hdn, hk, hR⟩
    have hf := hR.fin (hdn 4 (by decide))
    go_wp2
    go_end0
    exact ⟨⟨_, rfl⟩, hf⟩
end
section
open Go.RowKit

/-- the iterator and its three boxes -/
def NewIter (w : World) (va vb vc vd : Value) (e : Ending) (w' : World) : Prop :=
  e = .returned (.func (.func 94) #[] #[.pointer (some ⟨w.heap.size + 1, 0, none⟩), .pointer (some ⟨w.heap.size, 0, none⟩), .pointer (some ⟨w.heap.size + 2, 0, none⟩)]) ∧
    w' = ((w.alloc (.cells #[va, vb] 25)).alloc (.cells #[vc] 26)).alloc (.cells #[vd] 26)

theorem states_any (ta ca fa toa : Option Addr) (tn tc cn cc fn fc ton toc : Nat) (w : World) :
    Calls Try.prog 62 #[.agg #[.slice ta tn tc, .slice ca cn cc], .slice fa fn fc, .slice toa ton toc] w (NewIter w (.slice ta tn tc) (.slice ca cn cc) (.slice fa fn fc) (.slice toa ton toc)) := by
  go_enter Try.func62, Try.ntmps62
  go_wp2
  go_ret
  exact ⟨rfl, rfl⟩

theorem NewIter.facts {w w' : World} {va vb vc vd : Value} {e : Ending} (h : NewIter w va vb vc vd e w') : Gr w w' ∧ w'.heap.size = w.heap.size + 3 ∧ w'.cell? ⟨w.heap.size, 0, none⟩ = some va ∧ w'.cell? ⟨w.heap.size, 1, none⟩ = some vb ∧ w'.cell? ⟨w.heap.size + 1, 0, none⟩ = some vc ∧ w'.cell? ⟨w.heap.size + 2, 0, none⟩ = some vd := by
  obtain ⟨_, rfl⟩ := h
  have s1 : (w.alloc (.cells #[va, vb] 25)).heap.size = w.heap.size + 1 := by simp
  have s2 : ((w.alloc (.cells #[va, vb] 25)).alloc (.cells #[vc] 26)).heap.size = w.heap.size + 2 := by simp
  have g2 := (Gr.alloc (w.alloc (.cells #[va, vb] 25)) (.cells #[vc] 26)).allocR (.cells #[vd] 26)
  have g3 := Gr.alloc ((w.alloc (.cells #[va, vb] 25)).alloc (.cells #[vc] 26)) (.cells #[vd] 26)
  refine ⟨((Gr.alloc _ _).allocR _).allocR _, by simp, ?_, ?_, ?_, ?_⟩
  · exact (g2.cell (by simp)).trans (cell_new rfl)
  · exact (g2.cell (by simp)).trans (cell_new rfl)
  · rw [← s1]; exact (g3.cell (by simp)).trans (cell_new rfl)
  · rw [← s2]; exact cell_new rfl
end
section
open Go.RowKit

theorem putObj_only (W : World) (r : Nat) (o : Obj) : Only (fun b => b = r) W (W.putObj r o) := Only.putObj (S := fun b => b = r) (Only.refl _ W) (.inl rfl) o
theorem alloc_only (W : World) (o : Obj) (S : Nat → Prop) : Only S W (W.alloc o) := (Gr.alloc W o).only S

theorem Only.mono' {S S' : Nat → Prop} {a b : World} (h : Only S a b) (hs : ∀ i, S i → S' i) : Only S' a b := h.mono (fun i _ => hs i)

theorem Is3.lt {W : World} {b : Nat} (h : Is3 W b) : b < W.heap.size := by
  obtain ⟨_, _, hb⟩ := h
  exact (Array.getElem?_eq_some_iff.1 hb).1
theorem Is3.only {S : Nat → Prop} {W W' : World} {b : Nat} (h : Is3 W b) (g : Only S W W') (hs : ¬ S b) : Is3 W' b := by
  have hlt := h.lt
  obtain ⟨cur, fr, hb⟩ := h
  exact ⟨cur, fr, (g.block b hlt hs).trans hb⟩
theorem Is3.onlyN {S : Nat → Prop} {W W' : World} {b : Nat} (h : Is3 W b) (g : Only S W W') (hn : NoCells S W) : Is3 W' b := by
  refine h.only g (fun hs => ?_)
  obtain ⟨cur, fr, hb⟩ := h
  exact hn b cur 3 fr hs hb
theorem Is3.gr {W W' : World} {b : Nat} (h : Is3 W b) (g : Gr W W') : Is3 W' b := by
  have hlt := h.lt
  obtain ⟨cur, fr, hb⟩ := h
  exact ⟨cur, fr, (g.below.block b hlt).trans hb⟩
/-- what a round is handed -/
def SArg (wB w : World) (S : Nat → Prop) (f : Fl) (lo hi : List Int) (n : Nat) (x : List Int) (args : Array Value) (W : World) : Prop :=
  ∃ ad c, args = #[.slice (some ad) n c] ∧ Ints W (some ad) n x ∧ w.heap.size + 4 < ad.block ∧ x ∈ enum f lo hi n [] ∧ StOk f x ∧ worksB f x = true ∧ Only S wB W ∧ Is3 W ad.block

theorem range_states {g : Operand} {pt : Tmp} {assign body : Code} {Q : Exit → Act → World → Prop} {a : Act} {w wB : World} {S Y : Nat → Prop} {f : Fl} {ta ca fa toa : Option Addr} {tn tc cn cc n fc toc : Nat} {lo hi : List Int} {bfr bfl bto : Nat}
    (hg : a.eval g = .func (.func 94) #[] #[.pointer (some ⟨bfr, 0, none⟩), .pointer (some ⟨bfl, 0, none⟩), .pointer (some ⟨bto, 0, none⟩)])
    (hb : SBase wB S f ta tn ca cn fa toa n lo hi) (hbase : Only S wB w) (hYS : ∀ b, Y b → S b) (hYlt : ∀ b, Y b → b < w.heap.size)
    (c1 : w.cell? ⟨bfr, 0, none⟩ = some (.slice fa n fc)) (c2 : w.cell? ⟨bfl, 0, none⟩ = some (.slice ta tn tc)) (c3 : w.cell? ⟨bfl, 1, none⟩ = some (.slice ca cn cc)) (c4 : w.cell? ⟨bto, 0, none⟩ = some (.slice toa n toc))
    (n1 : ¬ Y bfr) (n2 : ¬ Y bfl) (n3 : ¬ Y bto) (I : List (List Int) → World → Prop) (Ix : Code → World → Prop)
    (h0 : I [] w) (hI : ∀ xs W W', I xs W → Only (fun b => b = w.heap.size + 1 ∨ b = w.heap.size + 4) W W' → I xs W')
    (hIx : ∀ c W W', Ix c W → Only (fun b => b = w.heap.size + 1) W W' → Ix c W') (a₁ : Value → Act)
    (hassign : ∀ (l : Nat) (v : Value) (W : World) (K : Act → World → Prop), K (a₁ v) W → assign.wpIn (Fence.wide.inRound l) 0 Try.prog (Exit.then K (fun _ _ _ => False)) { tmps := a.tmps.setIfInBounds pt v, defers := [] } W)
    (hbody : ∀ (pre : List (List Int)) (x : List Int) (ad : Addr) (c : Nat) (W : World), I pre W → Only S wB W → Ints W (some ad) n x → w.heap.size + 4 < ad.block → Is3 W ad.block → x ∈ enum f lo hi n [] → StOk f x → worksB f x = true →
      body.wpIn (Fence.wide.inRound (w.heap.size + 1)) 0 Try.prog (roundQ Y I Ix (pre ++ [x]) W) (a₁ (.slice (some ad) n c)) W)
    (hdone : ∀ (W : World), I (enum f lo hi n []) W → W.heap[w.heap.size]? = some (.deferred (some [])) → Q .normal { a with defers := { target := .collected w.heap.size, args := #[] } :: a.defers } W)
    (hstop : ∀ (c : Code) (W : World), Ix c W → W.heap[w.heap.size]? = some (.deferred (some [])) → c.wpIn Fence.wide 0 Try.prog Q { a with defers := { target := .collected w.heap.size, args := #[] } :: a.defers } W) :
    (Code.rangeFunc g #[pt] assign body).wp Try.prog Q a w := by
  have hsz := hbase.size
  refine range_rule (P := Try.prog) (α := List Int) (gf := 94) (lb := #[.pointer (some ⟨bfr, 0, none⟩), .pointer (some ⟨bfl, 0, none⟩), .pointer (some ⟨bto, 0, none⟩)]) hg (Go.Proofs.enters_of Try.func94 (by kernel_rfl) rfl)
    I Ix Y (SArg wB w S f lo hi n) (fun xs => xs = enum f lo hi n []) (fun args => a₁ (args.getD 0 undef)) (fun h => by have := hYlt _ h; omega) (fun h => by have := hYlt _ h; omega)
    (fun xs W o h => hI xs W _ h ((putObj_only _ _ _).mono' (fun i e => .inl e))) (fun c W o h => hIx c W _ h (putObj_only _ _ _))
    (fun x args W h => by obtain ⟨ad, c, rfl, _⟩ := h; rfl)
    (fun x args W o h => by
      obtain ⟨ad, c, h1, h2, h3, h4, h5, h6, h7, h8⟩ := h
      exact ⟨ad, c, h1, h2.onlyAt (putObj_only _ _ _) (fun ad' e hS => by cases e; omega), h3, h4, h5, h6, h7.trans ((putObj_only _ _ _).mono' (fun i e => by subst e; exact hb.new _ (by omega))), h8.only (putObj_only _ _ _) (by omega)⟩)
    h0 (fun xs W o h => hI xs W _ h (alloc_only _ _ _)) (fun l x args W K hE hK => by
      obtain ⟨ad, c, rfl, _⟩ := hE
      have h1 := hassign l (.slice (some ad) n c) W K hK
      simpa using h1)
    (fun pre x args W hi hE _ => by
      obtain ⟨ad, c, rfl, h2, h3, h4, h5, h6, h7, h8⟩ := hE
      exact hbody pre x ad c W hi h7 h2 h3 h8 h4 h5 h6) ?_ (fun xs W hS hi hk => by subst hS; exact hdone W hi hk) hstop
  intro L hLs hLp hyield hstart
  obtain ⟨W0, hW0⟩ : ∃ W0, (w.alloc (.deferred (some []))).alloc (.loop L) = W0 := ⟨_, rfl⟩
  have g0 : Gr w W0 := by rw [← hW0]; exact (Gr.alloc _ _).allocR _
  have s0 : W0.heap.size = w.heap.size + 2 := by rw [← hW0]; simp
  rw [hW0] at hstart ⊢
  refine callsIn_wide.2 ?_
  have hcall := states1_any wB W0 S Y (Between w.heap.size L I) (Left w.heap.size L Ix) f ta ca fa toa tn tc cn cc n fc toc lo hi bfr bfl bto (w.heap.size + 1) hb (hbase.thenGr g0) hYS (fun b h => Nat.lt_of_lt_of_le (hYlt b h) g0.size)
    ((g0.cell (lt_cell c1)).trans c1) ((g0.cell (lt_cell c2)).trans c2) ((g0.cell (lt_cell c3)).trans c3) ((g0.cell (lt_cell c4)).trans c4) n1 n2 n3 hstart
    (fun done W W' h ho => by
      rw [s0] at ho
      obtain ⟨hi, hl, hk⟩ := h
      have l1 := (Array.getElem?_eq_some_iff.1 hl).1
      have l2 := (Array.getElem?_eq_some_iff.1 hk).1
      exact ⟨hI _ _ _ hi (ho.mono' (fun i e => .inr e)), (ho.block _ l1 (by omega)).trans hl, (ho.block _ l2 (by omega)).trans hk⟩)
    (fun W W' h g => by
      obtain ⟨c, hi, hl, hk⟩ := h
      have l1 := (Array.getElem?_eq_some_iff.1 hl).1
      have l2 := (Array.getElem?_eq_some_iff.1 hk).1
      exact ⟨c, hIx _ _ _ hi (g.only _), (g.below.block _ l1).trans hl, (g.below.block _ l2).trans hk⟩)
    (fun done x rest W ad c hj hon hin h3 hp hall hst hw => by
      have hE : SArg wB w S f lo hi n x #[.slice (some ad) n c] W := ⟨ad, c, rfl, hin, by omega, by rw [hall]; simp, hst, hw, hon, h3⟩
      exact (hyield done x _ W hj hE).mono (fun e W' h => by
        rcases h with ⟨h1, h2, h3⟩ | ⟨h1, h2⟩
        · exact .inl ⟨h1, h2, h3⟩
        · exact .inr ⟨h1, h2⟩))
  refine hcall.mono (fun e W' h => ?_)
  obtain ⟨hv, h | h⟩ := h
  · exact ⟨hv, .inl ⟨_, rfl, h⟩⟩
  · exact ⟨hv, .inr h⟩
end
end Go.Proofs.Ytaidcocjcidggaa
