/- Several texts of this claim in one file. (1) Contracts of duration and of the reference step. (2) Contracts: stated, planned, steps, large. (3) Contract: slices.Clone of numbers. (4) A rule for a region that draws its order: each operation is looked at once, in whatever world and frame its forerunners have left; no order is named. Nothing of the program is proved here. (5) A rule for a range over a function at the outermost level of a function, and words for what a call leaves as it was. Nothing of the program is proved here. -/
import Derived.Test.YtlilojpnhmfnaaaBd1
import Derived.WalkSpells
import Derived.OrdersIn
import Derived.Below
import Derived.RangeFuncIn
import Derived.RangeFuncSeq
namespace Go.Proofs.Ytlilojpnhmfnaaa
section
open Go.RowKit

set_option maxHeartbeats 400000 in
theorem duration_any (ta ca a b : Option Addr) (tn tc cn cc n c d : Nat) (f : Fl) (xs ys : List Int) (w : World) (hf : FlAt w ta tn ca cn f) (hok : FlOk f)
    (hx : Ints w a n xs) (hy : Ints w b n ys) (h0 : ∀ c, c < f.times.length → 0 ≤ xs[c]?.getD 0) (hs : StOk f ys) (hle : ∀ c, c < f.times.length → xs[c]?.getD 0 ≤ ys[c]?.getD 0) :
    Calls Try.prog 58 #[.agg #[.slice ta tn tc, .slice ca cn cc], .slice a n c, .slice b n d] w fun e w' => e = .returned (.int .i64 (dur f.times xs ys)) ∧ Gr w w' := by
  have hn := hx.lt
  have hlen : n = f.times.length := by rw [← hs.len, hy.len]
  have htn : tn = f.times.length := hf.t.len.symm
  have hbd := durTo_bd hok h0 hs hle
  have HL := Lib.hid hlen
  have HT := Lib.hid htn
  have HB := Lib.hid hbd
  have h6 : n ≤ 6 := by have := hok.n6; omega
  clear hlen htn hbd
  go_enter Try.func58, Try.ntmps58
  go_wp2

  obtain ⟨w1, hw1⟩ : ∃ w1, w.alloc (.cells #[.slice ta tn tc, .slice ca cn cc] 25) = w1 := ⟨_, rfl⟩
  have hg1 : Gr w w1 := by rw [← hw1]; exact Gr.alloc _ _
  have hc0 : w1.cell? ⟨w.heap.size, 0, none⟩ = some (.slice ta tn tc) := by rw [← hw1]; simp
  rw [hw1]
  clear hw1
  go_loop [6, 11] (fun t i => ∃ k : Nat, k ≤ n ∧ i = .int .i64 k ∧ t = .int .i64 (durTo f.times xs ys k)) (fun _ i => n - (intOf i).toNat)
  case atStart => exact ⟨0, Nat.zero_le _, rfl, rfl⟩
  case round =>
    obtain ⟨k, hk, rfl, rfl⟩ := hrel
    by_cases hlt : k < n
    · obtain ⟨aa, rfl, hab, hac⟩ := (hx.gr hg1).at hlt
      obtain ⟨bb, rfl, hbb, hbc⟩ := (hy.gr hg1).at hlt
      have hb := HB.out k (by have := HL.out; omega)
      by_cases hc : ys[k]?.getD 0 = xs[k]?.getD 0
      · have hcb : (ys[k]?.getD 0 != xs[k]?.getD 0) = false := by simp [hc]
        have HC := Lib.hid hc
        clear hc
        go_wp2
        go_round
        case rel => exact ⟨k + 1, by omega, by go_num, by simp [durTo, HC.out]⟩
        case measure => simp [intOf]; omega
      · have hcb : (ys[k]?.getD 0 != xs[k]?.getD 0) = true := by simp [hc]
        obtain ⟨tt, ra, rn, rc, rfl, htb, htc, hri⟩ := (hf.t.gr hg1).at (j := k) (by have := HL.out; have := HT.out; omega)
        have hkl : k < f.times.length := by have := HL.out; omega
        have hktn : k < tn := by have := HT.out; omega
        have hv1 : 1 ≤ ys[k]?.getD 0 := by have := h0 k hkl; have := hle k hkl; omega
        have hv2 : ys[k]?.getD 0 - 1 < rn := by have := (hs.ver k hkl).2; have := hri.len; omega
        have htm := tm_bd hok hkl hv1 (by have := (hs.ver k hkl).2; omega)
        have hsn : durTo f.times xs ys (k + 1) = durTo f.times xs ys k + tm f.times k (ys[k]?.getD 0) := by simp [durTo, hc]
        have hrl := hri.lt
        have HS := Lib.hid hsn
        obtain ⟨rr, rfl, hrb, hrc⟩ := hri.at (j := (ys[k]?.getD 0).toNat - 1) (by omega)
        have hrc' : w1.cell? (rr.add ((ys[k]?.getD 0).toNat - 1)) = some (.int .i64 (tm f.times k (ys[k]?.getD 0))) := hrc
        clear hc hsn hrc
        go_wp2
        go_round
        case rel => exact ⟨k + 1, by omega, by go_num, by rw [HS.out]⟩
        case measure => simp [intOf]; omega
    · obtain rfl : k = n := by omega
      go_wp2
      go_ret
      exact ⟨ret_int (by unfold dur; rw [hy.len]), hg1⟩

set_option maxHeartbeats 1000000 in
theorem step_any (ta ca a b : Option Addr) (tn tc cn cc n c d : Nat) (f : Fl) (xs ys : List Int) (w : World) (hf : FlAt w ta tn ca cn f) (hok : FlOk f)
    (hx : Ints w a n xs) (hy : Ints w b n ys) (h0 : StOk f xs) (hs : StOk f ys) :
    Calls Try.prog 70 #[.agg #[.slice ta tn tc, .slice ca cn cc], .slice a n c, .slice b n d] w fun e w' => e = .returned (.int .i64 (stepV f.times xs ys)) ∧ Gr w w' := by
  have hn := hx.lt
  have hlen : n = f.times.length := by rw [← hs.len, hy.len]
  have htn : tn = f.times.length := hf.t.len.symm
  have hbd := durTo_bd' (a := xs) hok (fun c hc => (h0.ver c hc).1) hs
  have HL := Lib.hid hlen
  have HT := Lib.hid htn
  have HB := Lib.hid hbd
  have h6 : n ≤ 6 := by have := hok.n6; omega
  clear hlen htn hbd
  go_enter Try.func70, Try.ntmps70
  go_wp2
  obtain ⟨w1, hw1⟩ : ∃ w1, w.alloc (.cells #[.slice ta tn tc, .slice ca cn cc] 25) = w1 := ⟨_, rfl⟩
  have hg1 : Gr w w1 := by rw [← hw1]; exact Gr.alloc _ _
  have hc0 : w1.cell? ⟨w.heap.size, 0, none⟩ = some (.slice ta tn tc) := by rw [← hw1]; simp
  rw [hw1]
  clear hw1
  go_loopw [7, 8] (fun t i wr => ∃ k q : Nat, k ≤ n ∧ i = .int .i64 k ∧ wr = w1.drewN q ∧ t = .int .i64 (durTo f.times xs ys k) ∧ Hid (∀ j, j < k → xs[j]?.getD 0 ≤ ys[j]?.getD 0)) (fun _ i _ => n - (intOf i).toNat)
  case atStart => exact ⟨0, 0, Nat.zero_le _, rfl, rfl, rfl, Lib.hid (by intros; omega)⟩
  case round =>
    obtain ⟨k, q, hk, rfl, rfl, rfl, hall⟩ := hrel
    have hb := HB.out k (by have := HL.out; omega) hall.out
    by_cases hlt : k < n
    · obtain ⟨aa, rfl, hab, hac⟩ := (hx.gr hg1).at hlt
      obtain ⟨bb, rfl, hbb, hbc⟩ := (hy.gr hg1).at hlt
      by_cases hc : ys[k]?.getD 0 < xs[k]?.getD 0
      · go_wp2
        go_region
        go_wp2
        go_ret
        exact ⟨ret_int (by rw [stepV, aboveV_false hy.len hlt hc]; rfl), hg1.drewNR _⟩
      · by_cases hd : ys[k]?.getD 0 = xs[k]?.getD 0
        · have h1 : ¬ xs[k]?.getD 0 < ys[k]?.getD 0 := by omega
          have HD := Lib.hid hd
          clear hd
          go_wp2
          go_region
          go_wp2
          go_region
          go_wp2
          go_roundw
          case rel => exact ⟨k + 1, _, by omega, by go_num, rfl, by simp [durTo, HD.out], Lib.hid (fun j hj => by
            by_cases e : j = k
            · subst e; omega
            · exact hall.out j (by omega))⟩
          case measure => simp [intOf]; omega
        · obtain ⟨tt, ra, rn, rc, rfl, htb, htc, hri⟩ := (hf.t.gr hg1).at (j := k) (by have := HL.out; have := HT.out; omega)
          have hkl : k < f.times.length := by have := HL.out; omega
          have hktn : k < tn := by have := HT.out; omega
          have h1 : xs[k]?.getD 0 < ys[k]?.getD 0 := by omega
          have hv1 : 1 ≤ ys[k]?.getD 0 := by have := (h0.ver k hkl).1; omega
          have hv2 : ys[k]?.getD 0 - 1 < rn := by have := (hs.ver k hkl).2; have := hri.len; omega
          have hv3 : 0 ≤ ys[k]?.getD 0 - 1 := by omega
          have htm := tm_bd hok hkl hv1 (by have := (hs.ver k hkl).2; omega)
          have hsn : durTo f.times xs ys (k + 1) = durTo f.times xs ys k + tm f.times k (ys[k]?.getD 0) := by simp [durTo, hd]
          have hrl := hri.lt
          have HS := Lib.hid hsn
          obtain ⟨rr, rfl, hrb, hrc⟩ := hri.at (j := (ys[k]?.getD 0).toNat - 1) (by omega)
          have hrc' : w1.cell? (rr.add ((ys[k]?.getD 0).toNat - 1)) = some (.int .i64 (tm f.times k (ys[k]?.getD 0))) := hrc
          clear hd hsn hrc
          go_wp2
          go_region
          go_wp2
          go_region
          go_wp2
          go_region
          go_wp2
          go_roundw
          case rel => exact ⟨k + 1, _, by omega, by go_num, rfl, by rw [HS.out], Lib.hid (fun j hj => by
            by_cases e : j = k
            · subst e; omega
            · exact hall.out j (by omega))⟩
          case measure => simp [intOf]; omega
    · obtain rfl : k = n := by omega
      have habv := aboveV_true hy.len hall.out
      have hdur : dur f.times xs ys = durTo f.times xs ys k := by unfold dur; rw [hy.len]
      have HA := Lib.hid habv
      have HDU := Lib.hid hdur
      clear habv hdur
      by_cases hz : durTo f.times xs ys k = 0
      · have hzb : (durTo f.times xs ys k == 0) = true := by simp [hz]
        have HZ := Lib.hid hz
        clear hz
        go_wp2
        go_ret
        exact ⟨ret_int (by rw [stepV, HA.out, HDU.out, HZ.out]; rfl), hg1.drewNR _⟩
      · have hzb : (durTo f.times xs ys k == 0) = false := by simp [hz]
        have HZ := Lib.hid hz
        clear hz
        go_wp2
        go_ret
        exact ⟨ret_int (by rw [stepV, HA.out, HDU.out, if_pos rfl, if_neg HZ.out]), hg1.drewNR _⟩
end
section
open Go.RowKit
set_option maxHeartbeats 2000000 in
theorem stated_any (ta ca la : Option Addr) (tn tc cn cc ln lc : Nat) (f : Fl) (L : List (List Int)) (w : World) (hf : FlAt w ta tn ca cn f) (hL : RowsAt w la ln L) :
    Calls Try.prog 68 #[.agg #[.slice ta tn tc, .slice ca cn cc], .slice la ln lc] w fun e w' => e = .returned (.int .i64 (statesE f L)) ∧ Gr w w' := by
  have htn := hf.t.lt
  have hln := hL.lt
  have HT := Lib.hid hf.t.len
  have HL := Lib.hid hL.len
  have hga := Gr.alloc w (.cells #[.slice ta tn tc, .slice ca cn cc] 25)
  have hcon := check2_any ta ca tn tc cn cc f _ (hf.gr hga)
  cases hchk : chkB f with
  | false =>
    rw [chkE_of_false hchk] at hcon
    have HCON := Lib.hid hcon
    clear hcon
    go_enter Try.func68, Try.ntmps68
    go_wp2_with (go_at_call 37; refine HCON.out.mono ?_; rintro e w' ⟨rfl, hg⟩)
    go_ret
    exact ⟨ret_int (statesE_bad hchk).symm, hga.trans (by assumption)⟩
  | true =>
    rw [chkE_of_true hchk] at hcon
    have HCON := Lib.hid hcon
    clear hcon
    have hc0 : (w.alloc (.cells #[.slice ta tn tc, .slice ca cn cc] 25)).cell? ⟨w.heap.size, 0, none⟩ = some (.slice ta tn tc) := by simp
    have hc1 : (w.alloc (.cells #[.slice ta tn tc, .slice ca cn cc] 25)).cell? ⟨w.heap.size, 1, none⟩ = some (.slice ca cn cc) := by simp
    have hsz : w.heap.size < (w.alloc (.cells #[.slice ta tn tc, .slice ca cn cc] 25)).heap.size := by simp
    have C0 := Lib.hid hc0
    have C1 := Lib.hid hc1
    have SZ := Lib.hid hsz
    clear hc0 hc1 hsz
    go_enter Try.func68, Try.ntmps68
    go_wp2_with (go_at_call 37; refine HCON.out.mono ?_; rintro e w1 ⟨rfl, hg1⟩)
    have hg1 : Gr (w.alloc (.cells #[.slice ta tn tc, .slice ca cn cc] 25)) w1 := by assumption
    have hc0 := (hg1.cell (p := ⟨w.heap.size, 0, none⟩) SZ.out).trans C0.out
    have hc1 := (hg1.cell (p := ⟨w.heap.size, 1, none⟩) SZ.out).trans C1.out
    have hs1 : w.heap.size < w1.heap.size := Nat.lt_of_lt_of_le SZ.out hg1.size
    have hw1 : Gr w w1 := hga.trans hg1
    clear hga hg1 C0 C1 SZ HCON
    go_loopw [6] (fun i wr => ∃ k : Nat, k ≤ ln ∧ i = .int .i64 k ∧ Gr w1 wr ∧ Hid (∀ j, j < k → stB f.times (L[j]?.getD []) = true)) (fun i _ => ln - (intOf i).toNat)
    case atStart => exact ⟨0, Nat.zero_le _, rfl, Gr.refl _, Lib.hid (by intros; omega)⟩
    case round =>
      obtain ⟨k, hk, rfl, hg, hall⟩ := hrel
      by_cases hlt : k < ln
      · obtain ⟨tt, ra, rn, rc, rfl, htb, htc, hri⟩ := (hL.gr (hw1.trans hg)).at hlt
        have h0 := (hg.cell (p := ⟨w.heap.size, 0, none⟩) hs1).trans hc0
        have h1 := (hg.cell (p := ⟨w.heap.size, 1, none⟩) hs1).trans hc1
        have hsr : w.heap.size < wr.heap.size := Nat.lt_of_lt_of_le hs1 hg.size
        have hsa : (tt.add k).block < wr.heap.size := by rw [add_block]; exact htb
        have hst := state_any ta ca ra tn tc cn cc rn rc f (L[k]?.getD []) wr.drew ((hf.gr (hw1.trans hg)).gr (Gr.drew _)) (hri.gr (Gr.drew _))
        cases hv : stB f.times (L[k]?.getD []) with
        | false =>
          rw [hv] at hst
          have HST := Lib.hid hst
          clear hst
          go_wp2
          go_region_held3 (fun w' => w'.cell? ⟨w.heap.size, 0, none⟩ = some (.slice ta tn tc) ∧ w'.cell? ⟨w.heap.size, 1, none⟩ = some (.slice ca cn cc) ∧ w'.cell? (tt.add k) = some (.slice ra rn rc)) (first | go_keep | exact ⟨by assumption, by assumption, by assumption⟩)
            (first | (go_at_call 67; refine HST.out.mono ?_; rintro e w' ⟨rfl, hg2⟩; have s0 := (hg2.cell (p := ⟨w.heap.size, 0, none⟩) hsr).trans h0; have s1 := (hg2.cell (p := ⟨w.heap.size, 1, none⟩) hsr).trans h1; have s2 := (hg2.cell (p := tt.add k) hsa).trans htc))
          go_wp2
          go_ret
          exact ⟨ret_int (statesE_one hchk (k := k) (by rw [HL.out]; exact hlt) hv).symm, (hw1.trans hg).trans ((Gr.drew _).trans (by assumption))⟩
        | true =>
          rw [hv] at hst
          have HST := Lib.hid hst
          clear hst
          go_wp2
          go_region_held3 (fun w' => w'.cell? ⟨w.heap.size, 0, none⟩ = some (.slice ta tn tc) ∧ w'.cell? ⟨w.heap.size, 1, none⟩ = some (.slice ca cn cc) ∧ w'.cell? (tt.add k) = some (.slice ra rn rc)) (first | go_keep | exact ⟨by assumption, by assumption, by assumption⟩)
            (first | (go_at_call 67; refine HST.out.mono ?_; rintro e w' ⟨rfl, hg2⟩; have s0 := (hg2.cell (p := ⟨w.heap.size, 0, none⟩) hsr).trans h0; have s1 := (hg2.cell (p := ⟨w.heap.size, 1, none⟩) hsr).trans h1; have s2 := (hg2.cell (p := tt.add k) hsa).trans htc))
          go_wp2
          go_roundw
          case rel => exact ⟨k + 1, by omega, by go_num, hg.trans ((Gr.drew _).trans (by assumption)), Lib.hid (fun j hj => by
            by_cases e : j = k
            · subst e; exact hv
            · exact hall.out j (by omega))⟩
          case measure => simp [intOf]; omega
      · obtain rfl : k = ln := by omega
        go_wp2
        go_ret
        exact ⟨ret_int (statesE_ok hchk (fun i hi => hall.out i (by rw [← HL.out]; exact hi))).symm, hw1.trans hg⟩

theorem rows2 {w : World} {B : Nat} {a b : Option Addr} {n c m d : Nat} {xs ys : List Int} (hB : B < w.heap.size) (h0 : w.cell? ⟨B, 0, none⟩ = some (.slice a n c)) (h1 : w.cell? ⟨B, 1, none⟩ = some (.slice b m d))
    (hx : Ints w a n xs) (hy : Ints w b m ys) : RowsAt w (some ⟨B, 0, none⟩) 2 [xs, ys] := by
  refine ⟨rfl, by omega, fun j hj => ?_⟩
  match j, hj with
  | 0, _ => exact ⟨_, a, n, c, rfl, hB, h0, hx⟩
  | 1, _ => exact ⟨_, b, m, d, rfl, hB, h1, hy⟩
theorem rows1 {w : World} {B : Nat} {a : Option Addr} {n c : Nat} {xs : List Int} (hB : B < w.heap.size) (h0 : w.cell? ⟨B, 0, none⟩ = some (.slice a n c)) 
    (hx : Ints w a n xs) : RowsAt w (some ⟨B, 0, none⟩) 1 [xs] := by
  refine ⟨rfl, by omega, fun j hj => ?_⟩
  match j, hj with
  | 0, _ => exact ⟨_, a, n, c, rfl, hB, h0, hx⟩

/-- the errors of two states that work, and a budget -/
def plannedE (f : Fl) (a b : List Int) (budget : Int) : Int := if beginE f budget [a, b] = 0 then (if worksB f a && worksB f b then 0 else 111) else beginE f budget [a, b]

theorem statesE_zero {f : Fl} {L : List (List Int)} (h : statesE f L = 0) : chkB f = true ∧ stsB f.times L = true := by
  unfold statesE at h
  split at h
  · split at h
    · exact ⟨by assumption, by assumption⟩
    · omega
  · omega
theorem stsB_two {T : List (List Int)} {a b : List Int} (h : stsB T [a, b] = true) : stB T a = true ∧ stB T b = true := by
  rw [stsB, List.all_eq_true] at h
  exact ⟨by simpa using h 0 (by simp), by simpa using h 1 (by simp)⟩

theorem clashI_of (f : Fl) (s : List Int) : (worksB f s = true → clashI f s < 0) ∧ (worksB f s = false → 0 ≤ clashI f s) := by
  unfold worksB; constructor
  · intro h; simpa using h
  · intro h; simpa using h

set_option maxHeartbeats 2000000 in
theorem planned_any (ta ca a b : Option Addr) (tn tc cn cc n c m d : Nat) (f : Fl) (xs ys : List Int) (budget : Int) (w : World) (hf : FlAt w ta tn ca cn f) (hx : Ints w a n xs) (hy : Ints w b m ys) :
    Calls Try.prog 52 #[.agg #[.slice ta tn tc, .slice ca cn cc], .slice a n c, .slice b m d, .int .i64 budget] w fun e w' => e = .returned (.int .i64 (plannedE f xs ys budget)) ∧ Gr w w' := by
  have hg2 : Gr w ((w.alloc (.cells #[.slice ta tn tc, .slice ca cn cc] 25)).alloc (.cells #[.slice a n c, .slice b m d] 26)) := (Gr.alloc _ _).allocR _
  have hrows : RowsAt ((w.alloc (.cells #[.slice ta tn tc, .slice ca cn cc] 25)).alloc (.cells #[.slice a n c, .slice b m d] 26)) (some ⟨w.heap.size + 1, 0, none⟩) 2 [xs, ys] :=
    rows2 (c := c) (d := d) (by simp) (by simp) (by simp) (hx.gr hg2) (hy.gr hg2)
  have hcon := Lib.hid (stated_any ta ca _ tn tc cn cc 2 2 f [xs, ys] _ (hf.gr hg2) hrows)
  have hc0 : ((w.alloc (.cells #[.slice ta tn tc, .slice ca cn cc] 25)).alloc (.cells #[.slice a n c, .slice b m d] 26)).cell? ⟨w.heap.size, 0, none⟩ = some (.slice ta tn tc) := by simp
  have hc1 : ((w.alloc (.cells #[.slice ta tn tc, .slice ca cn cc] 25)).alloc (.cells #[.slice a n c, .slice b m d] 26)).cell? ⟨w.heap.size, 1, none⟩ = some (.slice ca cn cc) := by simp
  have hsz : w.heap.size < ((w.alloc (.cells #[.slice ta tn tc, .slice ca cn cc] 25)).alloc (.cells #[.slice a n c, .slice b m d] 26)).heap.size := by simp; omega
  have C0 := Lib.hid hc0
  have C1 := Lib.hid hc1
  have SZ := Lib.hid hsz
  clear hc0 hc1 hsz hrows
  by_cases hz : statesE f [xs, ys] = 0
  · have hzb : (statesE f [xs, ys] != 0) = false := by simp [hz]
    obtain ⟨hchk, hsts⟩ := statesE_zero hz
    have hok := chkB_ok hchk
    have hsx := stB_ok (stsB_two hsts).1
    have hsy := stB_ok (stsB_two hsts).2
    have HZ := Lib.hid hz
    clear hz hchk hsts
    cases hb : withinB budget 0 1000000 with
    | false =>
      go_enter Try.func52, Try.ntmps52
      go_wp2_with (first | (go_at_call 68; refine hcon.out.mono ?_; rintro e w' ⟨rfl, hg⟩) | (go_at_call 63; refine (within2_any _ _ _ _).mono ?_; rintro e w' ⟨rfl, rfl⟩))
      go_ret
      exact ⟨ret_int (by simp [plannedE, beginE, HZ.out, hb]), hg2.trans (by assumption)⟩
    | true =>
      have hbz : beginE f budget [xs, ys] = 0 := by simp [beginE, HZ.out, hb]
      have HBZ := Lib.hid hbz
      clear hbz
      go_enter Try.func52, Try.ntmps52
      go_wp2_with (first | (go_at_call 68; refine hcon.out.mono ?_; rintro e w1 ⟨rfl, hg⟩; have g0 := (hg.cell (p := ⟨w.heap.size, 0, none⟩) SZ.out).trans C0.out; have g1 := (hg.cell (p := ⟨w.heap.size, 1, none⟩) SZ.out).trans C1.out; have gw := hg2.trans hg; have gs := Lib.hid (Nat.lt_of_lt_of_le SZ.out hg.size)) | (go_at_call 63; refine (within2_any _ _ _ _).mono ?_; rintro e w' ⟨rfl, rfl⟩))
      have h0 := clashI_of f xs
      have h1 := clashI_of f ys
      refine (clash2_any ta ca a tn tc cn cc n c f xs w1 (hf.gr gw) hok (hx.gr gw) hsx).mono ?_
      rintro e w2 ⟨rfl, hg3⟩
      have g0 := (hg3.cell (p := ⟨w.heap.size, 0, none⟩) gs.out).trans g0
      have g1 := (hg3.cell (p := ⟨w.heap.size, 1, none⟩) gs.out).trans g1
      have gw2 := gw.trans hg3
      cases hwx : worksB f xs with
      | false =>
        have h0 := h0.2 hwx
        go_wp2_with fail
        go_ret
        exact ⟨ret_int (by simp [plannedE, HBZ.out, hwx]), gw2⟩
      | true =>
        have h0 := h0.1 hwx
        go_wp2_with fail
        refine (clash2_any ta ca b tn tc cn cc m d f ys w2 (hf.gr gw2) hok (hy.gr gw2) hsy).mono ?_
        rintro e w3 ⟨rfl, hg4⟩
        cases hwy : worksB f ys with
        | false =>
          have h1 := h1.2 hwy
          go_wp2_with fail
          go_ret
          exact ⟨ret_int (by simp [plannedE, HBZ.out, hwx, hwy]), gw2.trans hg4⟩
        | true =>
          have h1 := h1.1 hwy
          go_wp2_with fail
          go_ret
          exact ⟨ret_int (by simp [plannedE, HBZ.out, hwx, hwy]), gw2.trans hg4⟩
  · have hzb : (statesE f [xs, ys] != 0) = true := by simp [hz]
    have HZ := Lib.hid hz
    clear hz
    go_enter Try.func52, Try.ntmps52
    go_wp2_with (first | (go_at_call 68; refine hcon.out.mono ?_; rintro e w' ⟨rfl, hg⟩) | (go_at_call 63; refine (within2_any _ _ _ _).mono ?_; rintro e w' ⟨rfl, rfl⟩))
    go_ret
    exact ⟨ret_int (by simp [plannedE, beginE, HZ.out]), hg2.trans (by assumption)⟩

/-- a step leads from one state to another one, within a budget -/
def stepsB (T : List (List Int)) (xs ys : List Int) (budget : Int) : Bool := aboveV ys xs && !decide (xs = ys) && decide (dur T xs ys ≤ budget)

theorem aboveV_le {xs ys : List Int} (h : aboveV ys xs = true) : ∀ c, c < ys.length → xs[c]?.getD 0 ≤ ys[c]?.getD 0 := by
  simpa only [aboveV, List.all_eq_true, List.mem_range, decide_eq_true_eq] using h

set_option maxHeartbeats 2000000 in
theorem steps_any (ta ca a b : Option Addr) (tn tc cn cc n c d : Nat) (f : Fl) (xs ys : List Int) (budget : Int) (w : World) (hf : FlAt w ta tn ca cn f) (hok : FlOk f)
    (hx : Ints w a n xs) (hy : Ints w b n ys) (hsx : StOk f xs) (hsy : StOk f ys) :
    Calls Try.prog 60 #[.agg #[.slice ta tn tc, .slice ca cn cc], .slice a n c, .slice b n d, .int .i64 budget] w fun e w' => e = .returned (.bool (stepsB f.times xs ys budget)) ∧ Gr w w' := by
  have hga := Gr.alloc w (.cells #[.slice ta tn tc, .slice ca cn cc] 25)
  have hab := Lib.hid (above_any b a n d n c ys xs _ (hy.gr hga) (hx.gr hga) (Nat.le_refl _))
  cases h1 : aboveV ys xs with
  | false =>
    go_enter Try.func60, Try.ntmps60
    go_wp2_with (go_at_call 55; refine hab.out.mono ?_; rintro e w' ⟨rfl, q, rfl⟩)
    go_ret
    exact ⟨ret_bool (by simp [stepsB, h1]), hga.drewNR _⟩
  | true =>
    have heq := fun q => Lib.hid (equal_any a b n c n d xs ys ((w.alloc (.cells #[.slice ta tn tc, .slice ca cn cc] 25)).drewN q) (hx.gr (hga.drewNR _)) (hy.gr (hga.drewNR _)))
    have HEQ := Lib.hid heq
    clear heq
    cases h2 : decide (xs = ys) with
    | true =>
      go_enter Try.func60, Try.ntmps60
      go_wp2_with (first | (go_at_call 55; refine hab.out.mono ?_; rintro e w' ⟨rfl, q, rfl⟩) | (go_at_call 50; refine (HEQ.out _).out.mono ?_; rintro e w' ⟨rfl, q2, rfl⟩))
      go_ret
      exact ⟨ret_bool (by rw [stepsB, h2]; simp), (hga.drewNR _)⟩
    | false =>
      have hdu := fun q => Lib.hid (duration_any ta ca a b tn tc cn cc n c d f xs ys ((w.alloc (.cells #[.slice ta tn tc, .slice ca cn cc] 25)).drewN q) (hf.gr (hga.drewNR _)) hok (hx.gr (hga.drewNR _)) (hy.gr (hga.drewNR _)) (fun c hc => (hsx.ver c hc).1) hsy (fun c hc => aboveV_le h1 c (by rw [hsy.len]; exact hc)))
      have HDU := Lib.hid hdu
      clear hdu
      go_enter Try.func60, Try.ntmps60
      go_wp2_with (first | (go_at_call 55; refine hab.out.mono ?_; rintro e w' ⟨rfl, q, rfl⟩) | (go_at_call 50; refine (HEQ.out _).out.mono ?_; rintro e w' ⟨rfl, q2, rfl⟩) | (go_at_call 58; refine (HDU.out _).out.mono ?_; rintro e w' ⟨rfl, hgd⟩))
      go_ret
      exact ⟨ret_bool (by rw [stepsB, h1, h2]; simp), (hga.drewNR _).trans (by assumption)⟩

/-- how many states there are, capped -/
def sizeTo (T : List (List Int)) : Nat → Int
  | 0 => 1
  | k + 1 => sizeTo T k * min (((T[k]?.getD []).length : Int) + 1) 4
def largeB (T : List (List Int)) : Bool := decide (200 < sizeTo T (min T.length 6))

theorem sizeTo_bd (T : List (List Int)) : ∀ k, k ≤ 6 → 1 ≤ sizeTo T k ∧ sizeTo T k ≤ 4096 := by
  have h : ∀ k, 1 ≤ sizeTo T k ∧ sizeTo T k ≤ 4 ^ k := by
    intro k
    induction k with
    | zero => simp [sizeTo]
    | succ k ih =>
      simp only [sizeTo]
      have h1 : (1 : Int) ≤ min (((T[k]?.getD []).length : Int) + 1) 4 := by omega
      have h2 : min (((T[k]?.getD []).length : Int) + 1) 4 ≤ 4 := by omega
      generalize min (((T[k]?.getD []).length : Int) + 1) 4 = m at *
      constructor
      · have := Int.mul_le_mul ih.1 h1 (by omega) (by omega); omega
      · have := Int.mul_le_mul ih.2 h2 (by omega) (by have := ih.1; omega)
        rw [Int.pow_succ]; exact this
  intro k hk
  have := h k
  have h3 : (4 : Int) ^ k ≤ 4096 := by
    match k, hk with
    | 0, _ => decide
    | 1, _ => decide
    | 2, _ => decide
    | 3, _ => decide
    | 4, _ => decide
    | 5, _ => decide
    | 6, _ => decide
  omega

set_option maxHeartbeats 2000000 in
theorem large_any (ta ca : Option Addr) (tn tc cn cc : Nat) (f : Fl) (w : World) (hf : FlAt w ta tn ca cn f) :
    Calls Try.prog 15 #[.agg #[.slice ta tn tc, .slice ca cn cc]] w fun e w' => e = .returned (.bool (largeB f.times)) ∧ Gr w w' := by
  have htn := hf.t.lt
  have HT := Lib.hid hf.t.len
  have HB := Lib.hid (sizeTo_bd f.times)
  go_enter Try.func15, Try.ntmps15
  go_wp2
  obtain ⟨w1, hw1⟩ : ∃ w1, w.alloc (.cells #[.slice ta tn tc, .slice ca cn cc] 25) = w1 := ⟨_, rfl⟩
  have hg1 : Gr w w1 := by rw [← hw1]; exact Gr.alloc _ _
  have hc0 : w1.cell? ⟨w.heap.size, 0, none⟩ = some (.slice ta tn tc) := by rw [← hw1]; simp
  rw [hw1]
  clear hw1
  go_loop [3, 4] (fun t i => ∃ k : Nat, k ≤ tn ∧ k ≤ 6 ∧ i = .int .i64 k ∧ t = .int .i64 (sizeTo f.times k)) (fun _ i => tn - (intOf i).toNat)
  case atStart => exact ⟨0, Nat.zero_le _, by omega, rfl, rfl⟩
  case round =>
    obtain ⟨k, hk, hk6, rfl, rfl⟩ := hrel
    by_cases hlt : k < tn
    · by_cases hl6 : (k : Int) < 6
      · obtain ⟨tt, ra, rn, rc, rfl, htb, htc, hri⟩ := (hf.t.gr hg1).at hlt
        have hrl := hri.lt
        have HR := Lib.hid hri.len
        have hb := HB.out (k + 1) (by omega)
        have hb0 := HB.out k (by omega)
        have hsn : sizeTo f.times (k + 1) = sizeTo f.times k * min ((rn : Int) + 1) 4 := by simp only [sizeTo, HR.out]
        have HS := Lib.hid hsn
        rw [hsn] at hb
        clear hsn
        have hif : (if (4 : Int) < (rn : Int) + 1 then (4 : Int) else (rn : Int) + 1) = min ((rn : Int) + 1) 4 := by split <;> omega
        have HIF := Lib.hid hif
        clear hif
        go_wp2
        go_round
        case rel => exact ⟨k + 1, by omega, by omega, by go_num, by rw [HS.out, HIF.out, IntWalk.wrap64_in _ (by omega)]⟩
        case measure => simp [intOf]; omega
      · go_wp2
        go_ret
        exact ⟨ret_bool (by have : min f.times.length 6 = k := by rw [HT.out]; omega
                            rw [largeB, this]), hg1⟩
    · go_wp2
      go_ret
      exact ⟨ret_bool (by have : min f.times.length 6 = k := by rw [HT.out]; omega
                          rw [largeB, this]), hg1⟩
end
section
open Go.RowKit

theorem Try.info3 : (Try.prog.info? 3).map (fun i => (i.zero, i.size, i.bytes)) = some (some (.int .i64 0), 1, 8) := by kernel_rfl

/-- a block of numbers -/
def Is3 (w : World) (b : Nat) : Prop := ∃ cur fr, w.heap[b]? = some (.cells cur 3 fr)

theorem ints_own {w : World} {base : Nat} {v : Value} {n : Nat} {xs : List Int} (hl : xs.length = n) (hn : n < 1152921504606846976) (h : w.ownsRow base 3 1 v n (xs.map (Value.int .i64))) (h0 : 0 < n) :
    ∃ g c, v = .slice (some ⟨g, 0, none⟩) n c ∧ base ≤ g ∧ n ≤ c ∧ Ints w (some ⟨g, 0, none⟩) n xs ∧ Is3 w g := by
  rcases h.2 with ⟨_, h1⟩ | ⟨g, cap, cur, rfl, hb, hg, hnc, _, _, _⟩
  · omega
  · refine ⟨g, cap, rfl, hb, hnc, ⟨hl, hn, fun j hj => ⟨_, rfl, (Array.getElem?_eq_some_iff.1 hg).1, ?_⟩⟩, _, _, hg⟩
    have := h.cells (g := g) rfl j (.int .i64 (xs[j]?.getD 0)) (by simp [hl, hj])
    exact this

theorem Ints.cells {w : World} {ad : Addr} {n : Nat} {xs : List Int} (h : Ints w (some ad) n xs) : ∀ j u, (xs.map (Value.int .i64))[j]? = some u → w.cell? (ad.add j) = some u := by
  intro j u hu
  have hj : j < n := by
    have := (List.getElem?_eq_some_iff.1 hu).1
    rw [List.length_map, h.len] at this; exact this
  obtain ⟨ad', e, _, hc⟩ := h.at hj
  injection e with e
  subst e
  rw [hc]
  rw [List.getElem?_map] at hu
  cases hx : xs[j]? with
  | none => rw [hx] at hu; simp at hu
  | some x => rw [hx] at hu; simpa using hu

theorem ints_one (xs : List Int) : ∀ u ∈ xs.map (Value.int .i64), u.oneCell' = true := by
  intro u hu
  simp only [List.mem_map] at hu
  obtain ⟨x, _, rfl⟩ := hu
  rfl

/-- a new slice that holds xs -/
def NewInts (w : World) (xs : List Int) (e : Ending) (w' : World) : Prop := ∃ g c, e = .returned (.slice (some ⟨g, 0, none⟩) xs.length c) ∧ w.heap.size ≤ g ∧ Ints w' (some ⟨g, 0, none⟩) xs.length xs ∧ Gr w w' ∧ Is3 w' g

set_option maxHeartbeats 1000000 in
theorem clone_any (a : Option Addr) (n c : Nat) (xs : List Int) (w : World) (hx : Ints w a n xs) (h0 : 0 < n) (hn : n ≤ 1000000) : Calls Try.prog 51 #[.slice a n c] w (NewInts w xs) := by
  obtain ⟨ad, rfl, hab, _⟩ := hx.at h0
  obtain ⟨i0, hi, hz0, hz1, hz2⟩ := info_parts Try.info3
  have hnil := fun w a n c => Lib.run_eql_slice_nil (P := Try.prog) w 26 3 a n c 0 0 Try.underlying26
  have hg := Gr.alloc w (.cells #[] 3)
  have hxg := hx.gr hg
  have hown : (w.alloc (.cells #[] 3)).ownsRow w.heap.size 3 1 (.slice (some ⟨w.heap.size, 0, none⟩) 0 0) 0 [] := ⟨rfl, .inr ⟨w.heap.size, 0, #[], rfl, Nat.le_refl _, heap_alloc_new w _, Nat.le_refl _, by unfold maxLen; omega, rfl, rfl⟩⟩
  have HOWN := Lib.hid hown
  clear hown
  go_enter Try.func51, Try.ntmps51
  go_wp2_with (at_builtin; refine wpList_append_own _ rfl _ _ 26 rfl w.heap.size 3 i0 (.int .i64 0) 1 8 Try.underlying26 hi hz0 hz1 hz2 rfl (by decide) _ _ _ rfl HOWN.out ad n c (xs.map (Value.int .i64)) rfl (by rw [List.length_map, hx.len, Nat.mul_one]) hxg.cells (ints_one xs) (by unfold maxLen; omega) (by omega) (by simp) ?_; intro v' w1 hown' hgrow _)
  have hown2 : w1.ownsRow w.heap.size 3 1 v' n (xs.map (Value.int .i64)) := by simpa using hown'
  obtain ⟨g, c', rfl, hge, _, hint, his3⟩ := ints_own hx.len (by omega) hown2 h0
  go_wp2
  go_ret
  have hgr : Gr w w1 := Below.grown hg hgrow (Gr.size hg) (fun k hk => by cases hk; exact Nat.le_refl _)
  rw [← hx.len] at hint ⊢
  exact ⟨g, c', rfl, hge, hint, hgr, his3⟩
end
section
set_option linter.unusedVariables false
open Go.RowKit

/-- the frame with the values u in the slots that the operations write -/
def fillL (u : Nat → Value) : List Oper → Nat → Array Value → Array Value
  | [], _, t => t
  | o :: r, k, t => fillL u r (k + 1) (match o.dst with | some d => t.setIfInBounds d (u k) | none => t)

def dstsOf (l : List Oper) : List Tmp := l.filterMap (·.dst)

/-- p holds of each operation with its number -/
def AllIdx (p : Nat → Oper → Prop) : List Oper → Nat → Prop
  | [], _ => True
  | o :: r, k => p k o ∧ AllIdx p r (k + 1)

theorem AllIdx.at {p : Nat → Oper → Prop} : ∀ {l : List Oper} {k : Nat}, AllIdx p l k → ∀ i o, l[i]? = some o → p (k + i) o := by
  intro l
  induction l with
  | nil => intro k _ i o h; simp at h
  | cons x r ih =>
    intro k h i o hi
    cases i with
    | zero => simp at hi; subst hi; exact h.1
    | succ i =>
      have := ih h.2 i o (by simpa using hi)
      rw [show k + (i + 1) = k + 1 + i by omega]; exact this

/-- the direct forerunners of an operation -/
def fore (o : Oper) : List Nat := (o.after.toList.filter (Region.binds .any)).map (·.on)
/-- all forerunners: closed under fore, by n rounds -/
def anc (l : List Oper) : Nat → List Nat → List Nat
  | 0, s => s
  | n + 1, s => anc l n (s ++ s.flatMap fun j => match l[j]? with | some o => fore o | none => []).eraseDups

def upd (done : Nat → Bool) (i : Nat) : Nat → Bool := fun j => if j = i then true else done j

theorem fillL_size (u : Nat → Value) : ∀ (l : List Oper) (k : Nat) (t : Array Value), (fillL u l k t).size = t.size := by
  intro l
  induction l with
  | nil => intro k t; rfl
  | cons o r ih =>
    intro k t
    simp only [fillL, ih]
    split <;> simp

theorem fillL_set_comm (u : Nat → Value) : ∀ (l : List Oper) (k : Nat) (t : Array Value) (d : Nat) (v : Value), d ∉ dstsOf l → (fillL u l k t).setIfInBounds d v = fillL u l k (t.setIfInBounds d v) := by
  intro l
  induction l with
  | nil => intro k t d v _; rfl
  | cons o r ih =>
    intro k t d v hd
    simp only [fillL]
    cases ho : o.dst with
    | none =>
      have hd' : d ∉ dstsOf r := by simpa [dstsOf, List.filterMap_cons, ho] using hd
      exact ih (k + 1) t d v hd'
    | some e =>
      have hd' : d ≠ e ∧ d ∉ dstsOf r := by simpa [dstsOf, List.filterMap_cons, ho] using hd
      rw [ih (k + 1) _ d v hd'.2, Array.setIfInBounds_comm _ _ (Ne.symm hd'.1)]

theorem fillL_congr {u u' : Nat → Value} : ∀ (l : List Oper) (k : Nat) (t : Array Value), (∀ i, k ≤ i → i < k + l.length → u i = u' i) → fillL u l k t = fillL u' l k t := by
  intro l
  induction l with
  | nil => intro k t _; rfl
  | cons o r ih =>
    intro k t h
    simp only [fillL]
    have h0 : u k = u' k := h k (Nat.le_refl _) (by simp)
    rw [h0]
    exact ih (k + 1) _ (fun i h1 h2 => h i (by omega) (by simp at h2 ⊢; omega))

theorem fillL_put (u : Nat → Value) (v : Value) : ∀ (l : List Oper) (k i : Nat) (t : Array Value) (o : Oper) (d : Nat), (dstsOf l).Nodup → l[i]? = some o → o.dst = some d →
    (fillL u l k t).setIfInBounds d v = fillL (fun j => if j = k + i then v else u j) l k t := by
  intro l
  induction l with
  | nil => intro k i t o d _ h; simp at h
  | cons x r ih =>
    intro k i t o d hn hi hd
    cases i with
    | zero =>
      simp at hi
      subst hi
      have hnr : d ∉ dstsOf r := by
        have : (d :: dstsOf r).Nodup := by simpa [dstsOf, List.filterMap_cons, hd] using hn
        exact (List.nodup_cons.1 this).1
      simp only [fillL, hd, Nat.add_zero]
      rw [fillL_set_comm u r (k + 1) _ d v hnr, Array.setIfInBounds_setIfInBounds]
      simp only [if_true]
      exact fillL_congr r (k + 1) _ (fun j h1 _ => by rw [if_neg (by omega)])
    | succ i =>
      have hnr : (dstsOf r).Nodup := by
        cases hx : x.dst with
        | none => simpa [dstsOf, List.filterMap_cons, hx] using hn
        | some e =>
          have : (e :: dstsOf r).Nodup := by simpa [dstsOf, List.filterMap_cons, hx] using hn
          exact (List.nodup_cons.1 this).2
      have hi' : r[i]? = some o := by simpa using hi
      have := ih (k + 1) i (match x.dst with | some d => t.setIfInBounds d (u k) | none => t) o d hnr hi' hd
      simp only [fillL]
      rw [this]
      have e1 : k + 1 + i = k + (i + 1) := by omega
      rw [e1]
      have e2 : (if k = k + (i + 1) then v else u k) = u k := by rw [if_neg (by omega)]
      rw [e2]

theorem fillL_self (t : Array Value) : ∀ (l : List Oper) (k : Nat) (u : Nat → Value), (∀ i o d, l[i]? = some o → o.dst = some d → d < t.size → u (k + i) = t.getD d undef) → fillL u l k t = t := by
  intro l
  induction l with
  | nil => intro k u _; rfl
  | cons x r ih =>
    intro k u h
    simp only [fillL]
    have hx : (match x.dst with | some d => t.setIfInBounds d (u k) | none => t) = t := by
      cases hd : x.dst with
      | none => rfl
      | some d =>
        simp only
        by_cases hlt : d < t.size
        · have := h 0 x d (by simp) hd hlt
          simp only [Nat.add_zero] at this
          rw [this]
          apply Array.ext
          · simp
          · intro i h1 h2
            rw [Array.getElem_setIfInBounds (by simpa using h2)]
            split
            · subst_vars; simp
            · rfl
        · simp [Array.setIfInBounds, hlt]
    rw [hx]
    exact ih (k + 1) u (fun i o d hi hd hlt => by
      have := h (i + 1) o d (by simpa using hi) hd hlt
      rw [show k + 1 + i = k + (i + 1) by omega]; exact this)

/-- An operation that is no defer statement, walked as everywhere, is walked within a round, too. -/
theorem wpIn_of_wp {P : Program} {o : Oper} {a : Act} {w : World} {K : Act → World → Prop} {Q : Exit → Act → World → Prop} {ro : Option Nat} {n : Nat} (hd : ∀ c, o.op ≠ .defer c)
    (h : o.wp P a w K Q) : o.wpIn { Fence.wide with round := ro } n P a w K Q := by
  refine ⟨fun _ _ => trivial, ?_⟩
  rw [Oper.semAt_eq ro a.eval o hd]
  unfold Oper.wp at h
  generalize (execOp a.eval o).run P w = r at *
  cases r with
  | ok x w' =>
    cases x <;> simp only [Oper.upon, Oper.uponIn] at h ⊢ <;> first | exact h | skip
    · exact ⟨fun h => by simp [Fence.wide] at h, (callsIn_wide (n := n - 1)).2 h⟩
    · exact ⟨fun h => by simp [Fence.wide] at h, fun c cs _ => let ⟨v, w2, r, s⟩ := h c cs; ⟨v, w2, r, stepsIn_wide.2 s⟩⟩
  | halt x w' => cases x <;> simp only [Oper.upon, Oper.uponIn] at h ⊢ <;> exact h

/-- the forerunners of operation i have run -/
def Fore (l : List Oper) (Φ : Nat → Value → World → Prop) (u : Nat → Value) (W : World) (i : Nat) (o : Oper) : Prop := ∀ j, j ∈ anc l l.length (fore o) → Φ j (u j) W

theorem Fore.at {l : List Oper} {Φ : Nat → Value → World → Prop} {u : Nat → Value} {W : World} {i : Nat} {o : Oper} (h : Fore l Φ u W i o) (j : Nat) (hj : (anc l l.length (fore o)).contains j = true) : Φ j (u j) W :=
  h j (by simpa using hj)

theorem anc_closed {l : List Oper} {done : Nat → Bool} (hc : ∀ j o, l[j]? = some o → done j = true → ∀ k ∈ fore o, done k = true) : ∀ (n : Nat) (s : List Nat), (∀ j ∈ s, done j = true) → ∀ j ∈ anc l n s, done j = true := by
  intro n
  induction n with
  | zero => intro s hs j hj; exact hs j hj
  | succ n ih =>
    intro s hs j hj
    simp only [anc] at hj
    refine ih _ (fun k hk => ?_) j hj
    simp only [List.mem_eraseDups, List.mem_append, List.mem_flatMap] at hk
    rcases hk with hk | ⟨m, hm, hk⟩
    · exact hs k hk
    · cases ho : l[m]? with
      | none => rw [ho] at hk; simp at hk
      | some o => rw [ho] at hk; exact hc m o ho (hs m hm) k hk

theorem fillL_none (u : Nat → Value) (v : Value) : ∀ (l : List Oper) (k i : Nat) (t : Array Value) (o : Oper), l[i]? = some o → o.dst = none →
    fillL u l k t = fillL (fun j => if j = k + i then v else u j) l k t := by
  intro l
  induction l with
  | nil => intro k i t o h; simp at h
  | cons x r ih =>
    intro k i t o hi hd
    cases i with
    | zero =>
      simp at hi
      subst hi
      simp only [fillL, hd, Nat.add_zero]
      exact fillL_congr r (k + 1) _ (fun j h1 _ => by rw [if_neg (by omega)])
    | succ i =>
      have hi' : r[i]? = some o := by simpa using hi
      simp only [fillL]
      have e2 : (if k = k + (i + 1) then v else u k) = u k := by rw [if_neg (by omega)]
      rw [e2, ih (k + 1) i _ o hi' hd]
      have e1 : k + 1 + i = k + (i + 1) := by omega
      rw [e1]

theorem countP_lt {p q : Nat → Bool} (hpq : ∀ j, q j = true → p j = true) {i : Nat} (hp : p i = true) (hq : q i = false) : ∀ {l : List Nat}, i ∈ l → l.countP q < l.countP p := by
  intro l
  induction l with
  | nil => intro h; simp at h
  | cons x r ih =>
    intro h
    have hle : r.countP q ≤ r.countP p := List.countP_mono_left (fun j _ => hpq j)
    rcases List.mem_cons.1 h with e | e
    · subst e
      simp only [List.countP_cons, hp, hq]
      simp; omega
    · have := ih e
      simp only [List.countP_cons]
      cases hx : q x with
      | true => simp [hpq x hx]; omega
      | false => simp; split <;> omega
theorem countP_upd (N : Nat) (done : Nat → Bool) (i : Nat) (hi : i < N) (hd : done i = false) : (List.range N).countP (fun j => !upd done i j) < (List.range N).countP (fun j => !done j) := by
  refine countP_lt (i := i) (fun j hj => ?_) (by simp [hd]) (by simp [upd]) (List.mem_range.2 hi)
  unfold upd at hj
  by_cases e : j = i
  · subst e; simp at hj
  · simpa [e] using hj

theorem hlt_anc (l : List Oper) (hfore : ∀ i o, l[i]? = some o → ∀ k ∈ fore o, k < i) (i : Nat) (o : Oper) (ho : l[i]? = some o) : ∀ j ∈ anc l l.length (fore o), j < i := by
  have h : ∀ (n : Nat) (s : List Nat), (∀ j ∈ s, j < i) → ∀ j ∈ anc l n s, j < i := by
    intro n
    induction n with
    | zero => intro s hs j hj; exact hs j hj
    | succ n ih =>
      intro s hs j hj
      simp only [anc] at hj
      refine ih _ (fun k hk => ?_) j hj
      simp only [List.mem_eraseDups, List.mem_append, List.mem_flatMap] at hk
      rcases hk with hk | ⟨m, hm, hk⟩
      · exact hs k hk
      · have hmi := hs m hm
        cases hx : l[m]? with
        | none => rw [hx] at hk; simp at hk
        | some x => rw [hx] at hk; have := hfore m x hx k hk; omega
  exact h _ _ (hfore i o ho)

/-- **A REGION THAT DRAWS ITS ORDER.** R done W: what holds of the world when the operations done have run · Φ i v W: what operation i's value is good for, stable under G · each operation is walked once. -/
theorem region_any {F : Fence} {n : Nat} {P : Program} {id : Nat} {l : List Oper} {Q : Exit → Act → World → Prop} {a : Act} {w : World} (hm : P.follows .mixedOrders = true)
    (hdag : (l.zipIdx.all fun (o, i) => (fore o).all (· < i)) = true) (hnd : (dstsOf l).Nodup) (hwide : ∀ f, F.fn f)
    (Φ : Nat → Value → World → Prop) (G : World → World → Prop) (hGr : ∀ W, G W W) (hst : ∀ i v W W', Φ i v W → G W W' → Φ i v W')
    (R : (Nat → Bool) → World → Prop) (h0 : R (fun _ => false) w.drew)
    (hstep : AllIdx (fun i o => ∀ (u : Nat → Value) (done : Nat → Bool) (W : World), done i = false → (∀ j ∈ anc l l.length (fore o), done j = true) → R done W → Fore l Φ u W i o →
      if Region.wanted o (yielded l.toArray (fillL u l 0 a.tmps)) then o.wpIn F n P { a with tmps := fillL u l 0 a.tmps } W (fun a' W' => ∃ v, a' = ({ a with tmps := fillL u l 0 a.tmps } : Act).put o.dst v ∧ Φ i v W' ∧ R (upd done i) W' ∧ G W W') Q
      else Φ i undef W ∧ R (upd done i) W) l 0)
    (hfin : ∀ (u : Nat → Value) (W : World), (∃ done, (∀ i, i < l.length → done i = true) ∧ R done W) → (∀ i, i < l.length → Φ i (u i) W) → Q .normal { a with tmps := fillL u l 0 a.tmps } W) :
    (Code.region id l.toArray true).wpIn F n P Q a w := by
  refine wpIn_region_any hm ?_
  have hfore : ∀ i o, l[i]? = some o → ∀ k ∈ fore o, k < i := by
    intro i o hi k hk
    rw [List.all_eq_true] at hdag
    have hmem : (o, i) ∈ l.zipIdx := by
      rw [List.mem_zipIdx_iff_getElem?]; exact hi
    have := hdag (o, i) hmem
    simp only [List.all_eq_true, decide_eq_true_eq] at this
    exact this k hk
  have hready : ∀ (listed : Array Bool) (done : Nat → Bool), listed.size = l.length → (∀ i, i < l.length → listed.getD i true = done i) → ∀ i o, l[i]? = some o →
      (i ∈ Region.ready .any l.toArray listed ↔ done i = false ∧ ∀ k ∈ fore o, done k = true) := by
    intro listed done hsz hl i o hi
    have hlt : i < l.length := (List.getElem?_eq_some_iff.1 hi).1
    have hget : ∀ k, k < l.length → listed.getD k false = done k := by
      intro k hk
      rw [← hl k hk]
      simp [Array.getD_eq_getD_getElem?, hsz, hk]
    simp only [Region.ready, List.mem_filter, List.mem_range, List.size_toArray, hlt, true_and, Bool.and_eq_true, Bool.not_eq_true', hl i hlt, List.getElem?_toArray, hi, Option.map_some, Option.getD_some]
    refine and_congr_right fun _ => ?_
    rw [Array.all_eq_true']
    constructor
    · intro h k hk
      have hki := hfore i o hi k hk
      simp only [fore, List.mem_map, List.mem_filter] at hk
      obtain ⟨e, ⟨he, hb⟩, rfl⟩ := hk
      have := h e (by simpa using he)
      simp only [hb, Bool.not_true, Bool.false_or] at this
      rw [← hget e.on (by omega)]
      exact this
    · intro h e he
      cases hb : Region.binds .any e with
      | false => simp
      | true =>
        have hk : e.on ∈ fore o := by simp only [fore, List.mem_map, List.mem_filter]; exact ⟨e, ⟨by simpa using he, hb⟩, rfl⟩
        have hd := h e.on hk
        have hek := hfore i o hi e.on hk
        rw [← hget e.on (by omega)] at hd
        simp only [Bool.not_true, Bool.false_or]
        exact hd
  have hmem : ∀ (listed : Array Bool) i, i ∈ Region.ready .any l.toArray listed → i < l.length := by
    intro listed i hi
    simp only [Region.ready, List.mem_filter, List.mem_range, List.size_toArray] at hi
    exact hi.1
  have hall : ∀ (listed : Array Bool) (done : Nat → Bool), listed.size = l.length → (∀ i, i < l.length → listed.getD i true = done i) → Region.ready .any l.toArray listed = [] → ∀ i, i < l.length → done i = true := by
    intro listed done hsz hl hr i
    induction i using Nat.strongRecOn with
    | _ i ih =>
      intro hi
      cases hd : done i with
      | true => rfl
      | false =>
        have ho : l[i]? = some l[i] := List.getElem?_eq_getElem hi
        have := (hready listed done hsz hl i _ ho).2 ⟨hd, fun k hk => by
          have hki := hfore i _ ho k hk
          exact ih k hki (by omega)⟩
        rw [hr] at this
        simp at this
  have main : ∀ (fuel : Nat) (listed : Array Bool) (u : Nat → Value) (done : Nat → Bool) (W : World), listed.size = l.length → (∀ i, i < l.length → listed.getD i true = done i) →
      (List.range l.length).countP (fun j => !done j) ≤ fuel → (∀ j o, l[j]? = some o → done j = true → ∀ k ∈ fore o, done k = true) → R done W → (∀ i, i < l.length → done i = true → Φ i (u i) W) →
      wpAnyIn F n P .any l.toArray Q fuel listed { a with tmps := fillL u l 0 a.tmps } W := by
    intro fuel
    induction fuel with
    | zero =>
      intro listed u done W hsz hl hc hcl hR hΦ
      have hd : ∀ i, i < l.length → done i = true := by
        intro i hi
        have h0 : (List.range l.length).countP (fun j => !done j) = 0 := by omega
        rw [List.countP_eq_zero] at h0
        have := h0 i (List.mem_range.2 hi)
        simpa using this
      refine ⟨?_, hfin u W ⟨done, hd, hR⟩ (fun i hi => hΦ i hi (hd i hi))⟩
      rw [List.eq_nil_iff_forall_not_mem]
      intro i hi
      have hlt := hmem listed i hi
      have ho : l[i]? = some l[i] := List.getElem?_eq_getElem hlt
      have := ((hready listed done hsz hl i _ ho).1 hi).1
      rw [hd i hlt] at this
      cases this
    | succ fuel ih =>
      intro listed u done W hsz hl hc hcl hR hΦ
      refine ⟨fun hr => ?_, fun i hi => ?_⟩
      · have hd := hall listed done hsz hl hr
        exact hfin u W ⟨done, hd, hR⟩ (fun i hi => hΦ i hi (hd i hi))
      · have hlt := hmem listed i hi
        have ho : l[i]? = some l[i] := List.getElem?_eq_getElem hlt
        generalize hoo : l[i] = o at ho
        obtain ⟨hdi, hfo⟩ := (hready listed done hsz hl i o ho).1 hi
        have hanc : ∀ j ∈ anc l l.length (fore o), done j = true := anc_closed hcl _ _ hfo
        have hs := AllIdx.at hstep i o ho
        simp only [Nat.zero_add] at hs
        have hF : Fore l Φ u W i o := by
          intro j hj
          exact hΦ j (hlt_anc l hfore i o ho j hj |> fun h => Nat.lt_trans h hlt) (hanc j hj)
        have hs := hs u done W hdi hanc hR hF
        have hnext : ∀ (v : Value) (W' : World), Φ i v W' → R (upd done i) W' → G W W' → wpAnyIn F n P .any l.toArray Q fuel (listed.setIfInBounds i true) (({ a with tmps := fillL u l 0 a.tmps } : Act).put o.dst v) W' := by
          intro v W' hv hR' hG
          have hput : (({ a with tmps := fillL u l 0 a.tmps } : Act).put o.dst v) = { a with tmps := fillL (fun j => if j = i then v else u j) l 0 a.tmps } := by
            cases hd : o.dst with
            | none =>
              simp only [Act.put]
              rw [fillL_none u v l 0 i a.tmps o ho hd, Nat.zero_add]
            | some d =>
              simp only [Act.put]
              rw [fillL_put u v l 0 i a.tmps o d hnd ho hd, Nat.zero_add]
          rw [hput]
          refine ih (listed.setIfInBounds i true) _ (upd done i) W' (by simp [hsz]) (fun j hj => ?_) ?_ ?_ hR' ?_
          · unfold upd
            by_cases e : j = i
            · subst e; simp [Array.getD_eq_getD_getElem?, hsz, hj]
            · rw [if_neg e, ← hl j hj]
              simp [Array.getD_eq_getD_getElem?, Array.getElem?_setIfInBounds_ne (Ne.symm e)]
          · have := countP_upd l.length done i hlt hdi
            omega
          · intro j oj hj hdj k hk
            unfold upd at hdj ⊢
            by_cases e : j = i
            · subst e
              rw [ho] at hj
              cases hj
              have := hfo k hk
              simp [this]
            · rw [if_neg e] at hdj
              have := hcl j oj hj hdj k hk
              simp [this]
          · intro j hj hdj
            unfold upd at hdj
            by_cases e : j = i
            · subst e; simpa using hv
            · rw [if_neg e] at hdj
              simp only [e, if_false]
              exact hst j _ W W' (hΦ j hj hdj) hG
        unfold wpOpIn
        simp only [List.getElem?_toArray, ho]
        by_cases hw : Region.wanted o (yielded l.toArray (fillL u l 0 a.tmps)) = true
        · rw [if_pos hw] at hs ⊢
          exact Oper.wpIn_mono (fun a' W' ⟨v, ha, hv, hR', hG⟩ => by subst ha; exact hnext v W' hv hR' hG) hs
        · rw [if_neg hw] at hs ⊢
          exact ⟨fun f _ => hwide f, hnext undef W hs.1 hs.2 (hGr W)⟩
  obtain ⟨u0, hself⟩ : ∃ u0 : Nat → Value, fillL u0 l 0 a.tmps = a.tmps :=
    ⟨fun i => match l[i]? with | some o => (match o.dst with | some d => a.tmps.getD d undef | none => undef) | none => undef, by
      apply fillL_self
      intro i o d hi hd _
      simp only [Nat.zero_add, hi, hd]⟩
  have hmain := main l.length (Array.replicate l.length false) u0 (fun _ => false) w.drew (by simp) (fun i hi => by simp [hi]) (by simp) (fun _ _ _ h => by cases h) h0 (fun _ _ h => by cases h)
  rw [hself] at hmain
  rw [List.size_toArray]
  exact hmain

/-- **A REGION THAT DRAWS ITS ORDER, IN GENERAL.** R done u W: what holds when the operations done have run and yielded u. -/
theorem region_inv {F : Fence} {n : Nat} {P : Program} {id : Nat} {l : List Oper} {Q : Exit → Act → World → Prop} {a : Act} {w : World} (hm : P.follows .mixedOrders = true)
    (hdag : (l.zipIdx.all fun (o, i) => (fore o).all (· < i)) = true) (hnd : (dstsOf l).Nodup) (hwide : ∀ f, F.fn f)
    (R : (Nat → Bool) → (Nat → Value) → World → Prop) (h0 : ∀ u, R (fun _ => false) u w.drew)
    (hstep : AllIdx (fun i o => ∀ (u : Nat → Value) (done : Nat → Bool) (W : World), done i = false → (∀ j ∈ anc l l.length (fore o), done j = true) → (∀ j oj, l[j]? = some oj → done j = true → ∀ k ∈ anc l l.length (fore oj), done k = true) → R done u W →
      if Region.wanted o (yielded l.toArray (fillL u l 0 a.tmps)) then o.wpIn F n P { a with tmps := fillL u l 0 a.tmps } W (fun a' W' => ∃ v, a' = ({ a with tmps := fillL u l 0 a.tmps } : Act).put o.dst v ∧ R (upd done i) (fun j => if j = i then v else u j) W') Q
      else R (upd done i) (fun j => if j = i then undef else u j) W) l 0)
    (hfin : ∀ (u : Nat → Value) (W : World), (∃ done, (∀ i, i < l.length → done i = true) ∧ R done u W) → Q .normal { a with tmps := fillL u l 0 a.tmps } W) :
    (Code.region id l.toArray true).wpIn F n P Q a w := by
  refine wpIn_region_any hm ?_
  have hfore : ∀ i o, l[i]? = some o → ∀ k ∈ fore o, k < i := by
    intro i o hi k hk
    rw [List.all_eq_true] at hdag
    have hmem : (o, i) ∈ l.zipIdx := by
      rw [List.mem_zipIdx_iff_getElem?]; exact hi
    have := hdag (o, i) hmem
    simp only [List.all_eq_true, decide_eq_true_eq] at this
    exact this k hk
  have hready : ∀ (listed : Array Bool) (done : Nat → Bool), listed.size = l.length → (∀ i, i < l.length → listed.getD i true = done i) → ∀ i o, l[i]? = some o →
      (i ∈ Region.ready .any l.toArray listed ↔ done i = false ∧ ∀ k ∈ fore o, done k = true) := by
    intro listed done hsz hl i o hi
    have hlt : i < l.length := (List.getElem?_eq_some_iff.1 hi).1
    have hget : ∀ k, k < l.length → listed.getD k false = done k := by
      intro k hk
      rw [← hl k hk]
      simp [Array.getD_eq_getD_getElem?, hsz, hk]
    simp only [Region.ready, List.mem_filter, List.mem_range, List.size_toArray, hlt, true_and, Bool.and_eq_true, Bool.not_eq_true', hl i hlt, List.getElem?_toArray, hi, Option.map_some, Option.getD_some]
    refine and_congr_right fun _ => ?_
    rw [Array.all_eq_true']
    constructor
    · intro h k hk
      have hki := hfore i o hi k hk
      simp only [fore, List.mem_map, List.mem_filter] at hk
      obtain ⟨e, ⟨he, hb⟩, rfl⟩ := hk
      have := h e (by simpa using he)
      simp only [hb, Bool.not_true, Bool.false_or] at this
      rw [← hget e.on (by omega)]
      exact this
    · intro h e he
      cases hb : Region.binds .any e with
      | false => simp
      | true =>
        have hk : e.on ∈ fore o := by simp only [fore, List.mem_map, List.mem_filter]; exact ⟨e, ⟨by simpa using he, hb⟩, rfl⟩
        have hd := h e.on hk
        have hek := hfore i o hi e.on hk
        rw [← hget e.on (by omega)] at hd
        simp only [Bool.not_true, Bool.false_or]
        exact hd
  have hmem : ∀ (listed : Array Bool) i, i ∈ Region.ready .any l.toArray listed → i < l.length := by
    intro listed i hi
    simp only [Region.ready, List.mem_filter, List.mem_range, List.size_toArray] at hi
    exact hi.1
  have hall : ∀ (listed : Array Bool) (done : Nat → Bool), listed.size = l.length → (∀ i, i < l.length → listed.getD i true = done i) → Region.ready .any l.toArray listed = [] → ∀ i, i < l.length → done i = true := by
    intro listed done hsz hl hr i
    induction i using Nat.strongRecOn with
    | _ i ih =>
      intro hi
      cases hd : done i with
      | true => rfl
      | false =>
        have ho : l[i]? = some l[i] := List.getElem?_eq_getElem hi
        have := (hready listed done hsz hl i _ ho).2 ⟨hd, fun k hk => by
          have hki := hfore i _ ho k hk
          exact ih k hki (by omega)⟩
        rw [hr] at this
        simp at this
  have main : ∀ (fuel : Nat) (listed : Array Bool) (u : Nat → Value) (done : Nat → Bool) (W : World), listed.size = l.length → (∀ i, i < l.length → listed.getD i true = done i) →
      (List.range l.length).countP (fun j => !done j) ≤ fuel → (∀ j o, l[j]? = some o → done j = true → ∀ k ∈ fore o, done k = true) → R done u W →
      wpAnyIn F n P .any l.toArray Q fuel listed { a with tmps := fillL u l 0 a.tmps } W := by
    intro fuel
    induction fuel with
    | zero =>
      intro listed u done W hsz hl hc hcl hR
      have hd : ∀ i, i < l.length → done i = true := by
        intro i hi
        have h0 : (List.range l.length).countP (fun j => !done j) = 0 := by omega
        rw [List.countP_eq_zero] at h0
        have := h0 i (List.mem_range.2 hi)
        simpa using this
      refine ⟨?_, hfin u W ⟨done, hd, hR⟩⟩
      rw [List.eq_nil_iff_forall_not_mem]
      intro i hi
      have hlt := hmem listed i hi
      have ho : l[i]? = some l[i] := List.getElem?_eq_getElem hlt
      have := ((hready listed done hsz hl i _ ho).1 hi).1
      rw [hd i hlt] at this
      cases this
    | succ fuel ih =>
      intro listed u done W hsz hl hc hcl hR
      refine ⟨fun hr => ?_, fun i hi => ?_⟩
      · have hd := hall listed done hsz hl hr
        exact hfin u W ⟨done, hd, hR⟩
      · have hlt := hmem listed i hi
        have ho : l[i]? = some l[i] := List.getElem?_eq_getElem hlt
        generalize hoo : l[i] = o at ho
        obtain ⟨hdi, hfo⟩ := (hready listed done hsz hl i o ho).1 hi
        have hanc : ∀ j ∈ anc l l.length (fore o), done j = true := anc_closed hcl _ _ hfo
        have hs := AllIdx.at hstep i o ho
        simp only [Nat.zero_add] at hs
        have hs := hs u done W hdi hanc (fun j oj hj hdj => anc_closed hcl _ _ (hcl j oj hj hdj)) hR
        have hnext : ∀ (v : Value) (W' : World), R (upd done i) (fun j => if j = i then v else u j) W' → wpAnyIn F n P .any l.toArray Q fuel (listed.setIfInBounds i true) (({ a with tmps := fillL u l 0 a.tmps } : Act).put o.dst v) W' := by
          intro v W' hR'
          have hput : (({ a with tmps := fillL u l 0 a.tmps } : Act).put o.dst v) = { a with tmps := fillL (fun j => if j = i then v else u j) l 0 a.tmps } := by
            cases hd : o.dst with
            | none =>
              simp only [Act.put]
              rw [fillL_none u v l 0 i a.tmps o ho hd, Nat.zero_add]
            | some d =>
              simp only [Act.put]
              rw [fillL_put u v l 0 i a.tmps o d hnd ho hd, Nat.zero_add]
          rw [hput]
          refine ih (listed.setIfInBounds i true) _ (upd done i) W' (by simp [hsz]) (fun j hj => ?_) ?_ ?_ hR'
          · unfold upd
            by_cases e : j = i
            · subst e; simp [Array.getD_eq_getD_getElem?, hsz, hj]
            · rw [if_neg e, ← hl j hj]
              simp [Array.getD_eq_getD_getElem?, Array.getElem?_setIfInBounds_ne (Ne.symm e)]
          · have := countP_upd l.length done i hlt hdi
            omega
          · intro j oj hj hdj k hk
            unfold upd at hdj ⊢
            by_cases e : j = i
            · subst e
              rw [ho] at hj
              cases hj
              have := hfo k hk
              simp [this]
            · rw [if_neg e] at hdj
              have := hcl j oj hj hdj k hk
              simp [this]
        unfold wpOpIn
        simp only [List.getElem?_toArray, ho]
        by_cases hw : Region.wanted o (yielded l.toArray (fillL u l 0 a.tmps)) = true
        · rw [if_pos hw] at hs ⊢
          exact Oper.wpIn_mono (fun a' W' ⟨v, ha, hR'⟩ => by subst ha; exact hnext v W' hR') hs
        · rw [if_neg hw] at hs ⊢
          exact ⟨fun f _ => hwide f, hnext undef W hs⟩
  obtain ⟨u0, hself⟩ : ∃ u0 : Nat → Value, fillL u0 l 0 a.tmps = a.tmps :=
    ⟨fun i => match l[i]? with | some o => (match o.dst with | some d => a.tmps.getD d undef | none => undef) | none => undef, by
      apply fillL_self
      intro i o d hi hd _
      simp only [Nat.zero_add, hi, hd]⟩
  have hmain := main l.length (Array.replicate l.length false) u0 (fun _ => false) w.drew (by simp) (fun i hi => by simp [hi]) (by simp) (fun _ _ _ h => by cases h) (h0 _)
  rw [hself] at hmain
  rw [List.size_toArray]
  exact hmain

/-- if operation j has run, its value is as p says -/
def Vl (done : Nat → Bool) (u : Nat → Value) (j : Nat) (p : Value → Prop) : Prop := done j = true → p (u j)
theorem Vl.keep {done : Nat → Bool} {u : Nat → Value} {j i : Nat} {p : Value → Prop} {x : Value} (h : Vl done u j p) (hne : j ≠ i) : Vl (upd done i) (fun k => if k = i then x else u k) j p := by
  intro hd
  simp only [upd, if_neg hne] at hd ⊢
  exact h hd
theorem Vl.new {done : Nat → Bool} {u : Nat → Value} {i : Nat} {p : Value → Prop} {x : Value} (h : p x) : Vl (upd done i) (fun k => if k = i then x else u k) i p := by
  intro _
  simpa using h
theorem Vl.start {u : Nat → Value} {j : Nat} {p : Value → Prop} : Vl (fun _ => false) u j p := fun h => by cases h
theorem upd_ne {done : Nat → Bool} {i j : Nat} (h : j ≠ i) : upd done i j = done j := by simp [upd, h]
theorem upd_self {done : Nat → Bool} {i : Nat} : upd done i i = true := by simp [upd]

theorem op_k {P : Program} {o : Oper} {a : Act} {W : World} {Q : Exit → Act → World → Prop} {RR : Value → World → Prop}
    (h : ∀ K : Act → World → Prop, (∀ v W', RR v W' → K (a.put o.dst v) W') → o.wp P a W K Q) : o.wp P a W (fun a' W' => ∃ v, a' = a.put o.dst v ∧ RR v W') Q :=
  h _ (fun v W' h => ⟨v, rfl, h⟩)
/-- An operation without a guard, in a region that draws. -/
theorem op_plain {P : Program} {o : Oper} {a : Act} {W : World} {Q : Exit → Act → World → Prop} {RR : Value → World → Prop} {y : Nat → Option Bool} {ro : Option Nat} {n : Nat} {E : Prop} (hg : o.guard = none) (hd : ∀ c, o.op ≠ .defer c)
    (h : ∀ K : Act → World → Prop, (∀ v W', RR v W' → K (a.put o.dst v) W') → o.wp P a W K Q) :
    if Region.wanted o y then o.wpIn { Fence.wide with round := ro } n P a W (fun a' W' => ∃ v, a' = a.put o.dst v ∧ RR v W') Q else E := by
  rw [if_pos (by simp [Region.wanted, hg])]
  exact wpIn_of_wp hd (op_k h)
/-- An operation whose guard is met. -/
theorem op_yes {P : Program} {o : Oper} {a : Act} {W : World} {Q : Exit → Act → World → Prop} {RR : Value → World → Prop} {y : Nat → Option Bool} {ro : Option Nat} {n : Nat} {E : Prop} {j : Nat} {b : Bool} (hg : o.guard = some (j, b)) (hy : y j = some b) (hd : ∀ c, o.op ≠ .defer c)
    (h : ∀ K : Act → World → Prop, (∀ v W', RR v W' → K (a.put o.dst v) W') → o.wp P a W K Q) :
    if Region.wanted o y then o.wpIn { Fence.wide with round := ro } n P a W (fun a' W' => ∃ v, a' = a.put o.dst v ∧ RR v W') Q else E := by
  rw [if_pos (by simp [Region.wanted, hg, hy])]
  exact wpIn_of_wp hd (op_k h)
/-- An operation whose guard is not met. -/
theorem op_no {o : Oper} {y : Nat → Option Bool} {E E' : Prop} {j : Nat} {b : Bool} (hg : o.guard = some (j, b)) (hy : y j = some (!b)) (h : E) : if Region.wanted o y then E' else E := by
  rw [if_neg (by simp [Region.wanted, hg, hy])]
  exact h
theorem fillL_get (u : Nat → Value) : ∀ (l : List Oper) (k j : Nat) (t : Array Value) (o : Oper) (d : Nat), (dstsOf l).Nodup → l[j]? = some o → o.dst = some d → d < t.size → (fillL u l k t)[d]? = some (u (k + j)) := by
  intro l
  induction l with
  | nil => intro k j t o d _ h; simp at h
  | cons x r ih =>
    intro k j t o d hn hj hd hlt
    cases j with
    | zero =>
      simp at hj
      subst hj
      have hnr : d ∉ dstsOf r := by
        have : (d :: dstsOf r).Nodup := by simpa [dstsOf, List.filterMap_cons, hd] using hn
        exact (List.nodup_cons.1 this).1
      simp only [fillL, hd, Nat.add_zero]
      have h1 : t.setIfInBounds d (u k) = (t.setIfInBounds d (u k)).setIfInBounds d (u k) := by rw [Array.setIfInBounds_setIfInBounds]
      rw [h1, ← fillL_set_comm u r (k + 1) _ d (u k) hnr]
      rw [Array.getElem?_setIfInBounds]
      simp [fillL_size, hlt]
    | succ j =>
      have hnr : (dstsOf r).Nodup := by
        cases hx : x.dst with
        | none => simpa [dstsOf, List.filterMap_cons, hx] using hn
        | some e =>
          have : (e :: dstsOf r).Nodup := by simpa [dstsOf, List.filterMap_cons, hx] using hn
          exact (List.nodup_cons.1 this).2
      simp only [fillL]
      rw [ih (k + 1) j _ o d hnr (by simpa using hj) hd (by split <;> simp [hlt])]
      rw [show k + 1 + j = k + (j + 1) by omega]

theorem yielded_fill {l : List Oper} {u : Nat → Value} {t : Array Value} {j : Nat} {b : Bool} (hnd : (dstsOf l).Nodup) (hlt : (match (l[j]?).bind (·.dst) with | some d => decide (d < t.size) | none => false) = true) (hu : u j = .bool b) :
    yielded l.toArray (fillL u l 0 t) j = some b := by
  cases ho : l[j]? with
  | none => rw [ho] at hlt; simp at hlt
  | some o =>
    rw [ho] at hlt
    cases hd : o.dst with
    | none => simp [hd] at hlt
    | some d =>
      simp [hd] at hlt
      have := fillL_get u l 0 j t o d hnd ho hd hlt
      simp [yielded, ho, hd, this, hu]

/-- An operation whose guard is not met, in a region that draws. -/
theorem op_skip {l : List Oper} {u : Nat → Value} {t : Array Value} {o : Oper} {E E' : Prop} (j : Nat) (b : Bool) {b' : Bool} (hu : u j = .bool b') (hne : (b' == b) = false) (hnd : (dstsOf l).Nodup)
    (hlt : (match (l[j]?).bind (·.dst) with | some d => decide (d < t.size) | none => false) = true) (hg : o.guard = some (j, b)) (h : E) : if Region.wanted o (yielded l.toArray (fillL u l 0 t)) then E' else E := by
  rw [if_neg (by simp [Region.wanted, hg, yielded_fill hnd hlt hu]; simpa using hne)]
  exact h
/-- An operation whose guard is met, in a region that draws. -/
theorem op_meet {P : Program} {l : List Oper} {u : Nat → Value} {t : Array Value} {o : Oper} {a : Act} {W : World} {Q : Exit → Act → World → Prop} {RR : Value → World → Prop} {ro : Option Nat} {n : Nat} {E : Prop} (j : Nat) (b : Bool) (hu : u j = .bool b) (hnd : (dstsOf l).Nodup)
    (hlt : (match (l[j]?).bind (·.dst) with | some d => decide (d < t.size) | none => false) = true) (hg : o.guard = some (j, b)) (hd : ∀ c, o.op ≠ .defer c)
    (h : ∀ K : Act → World → Prop, (∀ v W', RR v W' → K (a.put o.dst v) W') → o.wp P a W K Q) :
    if Region.wanted o (yielded l.toArray (fillL u l 0 t)) then o.wpIn { Fence.wide with round := ro } n P a W (fun a' W' => ∃ v, a' = a.put o.dst v ∧ RR v W') Q else E := by
  rw [if_pos (by simp [Region.wanted, hg, yielded_fill hnd hlt hu])]
  exact wpIn_of_wp hd (op_k h)
/-- An operation whose guard is met: its walk in a fence. -/
theorem op_meetIn {l : List Oper} {u : Nat → Value} {t : Array Value} {o : Oper} {E E' : Prop} (j : Nat) (b : Bool) (hu : u j = .bool b) (hnd : (dstsOf l).Nodup)
    (hlt : (match (l[j]?).bind (·.dst) with | some d => decide (d < t.size) | none => false) = true) (hg : o.guard = some (j, b)) (h : E') :
    if Region.wanted o (yielded l.toArray (fillL u l 0 t)) then E' else E := by
  rw [if_pos (by simp [Region.wanted, hg, yielded_fill hnd hlt hu])]
  exact h
/-- An operation's walk in a fence without bounds, out of its plain walk. -/
theorem op_in {P : Program} {o : Oper} {a : Act} {W : World} {Q : Exit → Act → World → Prop} {RR : Value → World → Prop} {ro : Option Nat} {n : Nat} (hd : ∀ c, o.op ≠ .defer c)
    (h : ∀ K : Act → World → Prop, (∀ v W', RR v W' → K (a.put o.dst v) W') → o.wp P a W K Q) :
    o.wpIn { Fence.wide with round := ro } n P a W (fun a' W' => ∃ v, a' = a.put o.dst v ∧ RR v W') Q := wpIn_of_wp hd (op_k h)
theorem mem_of {L : List Nat} {j : Nat} (h : L.contains j = true) : j ∈ L := by simpa using h
end
section
open Go.RowKit

/-- Only blocks of S (and new ones) have turned. -/
structure Only (S : Nat → Prop) (w w' : World) : Prop where
  os : w'.os = w.os
  tape : w'.tape = w.tape
  output : w'.output = w.output
  size : w.heap.size ≤ w'.heap.size
  block : ∀ b, b < w.heap.size → ¬ S b → w'.heap[b]? = w.heap[b]?

theorem Only.refl (S : Nat → Prop) (w : World) : Only S w w := ⟨rfl, rfl, rfl, Nat.le_refl _, fun _ _ _ => rfl⟩
theorem Only.trans {S : Nat → Prop} {a b c : World} (h : Only S a b) (k : Only S b c) : Only S a c :=
  ⟨k.os.trans h.os, k.tape.trans h.tape, k.output.trans h.output, Nat.le_trans h.size k.size, fun i hi hs => (k.block i (Nat.lt_of_lt_of_le hi h.size) hs).trans (h.block i hi hs)⟩
theorem Only.mono {S S' : Nat → Prop} {a b : World} (h : Only S a b) (hs : ∀ i, i < a.heap.size → S i → S' i) : Only S' a b :=
  ⟨h.os, h.tape, h.output, h.size, fun i hi hn => h.block i hi (fun hS => hn (hs i hi hS))⟩
theorem Gr.only {a b : World} (h : Gr a b) (S : Nat → Prop) : Only S a b := ⟨Below.os h, Below.tape h, Below.output h, Below.size h, fun i hi _ => Below.block h i hi⟩
theorem Only.gr {S : Nat → Prop} {a b : World} (h : Only S a b) (hs : ∀ i, i < a.heap.size → ¬ S i) : Gr a b := ⟨h.os, h.tape, h.output, h.size, fun i hi => h.block i hi (hs i hi)⟩
theorem Only.setCell {S : Nat → Prop} {a b : World} (h : Only S a b) {p : Addr} (hp : S p.block ∨ a.heap.size ≤ p.block) (u : Value) : Only S a (b.setCell p u) :=
  ⟨h.os, h.tape, h.output, by simpa [World.setCell] using h.size, fun i hi hn => (Below.heap_setCell b p u i (by
    rintro rfl
    rcases hp with hp | hp
    · exact hn hp
    · omega)).trans (h.block i hi hn)⟩
theorem Only.putObj {S : Nat → Prop} {a b : World} (h : Only S a b) {r : Nat} (hp : S r ∨ a.heap.size ≤ r) (o : Obj) : Only S a (b.putObj r o) :=
  ⟨h.os, h.tape, h.output, by simpa using h.size, fun i hi hn => (World.putObj_heap_other (by
    rintro rfl
    rcases hp with hp | hp
    · exact hn hp
    · omega)).trans (h.block i hi hn)⟩
theorem Only.thenGr {S : Nat → Prop} {a b c : World} (h : Only S a b) (k : Gr b c) : Only S a c := h.trans (k.only S)

/-- no block of S is a row of cells -/
def NoCells (S : Nat → Prop) (w : World) : Prop := ∀ b cs t fr, S b → w.heap[b]? ≠ some (.cells cs t fr)

theorem cell_block {w : World} {p : Addr} {v : Value} (h : w.cell? p = some v) : ∃ cs t fr, w.heap[p.block]? = some (.cells cs t fr) := by
  unfold World.cell? at h
  cases hb : w.heap[p.block]? with
  | none => rw [hb] at h; simp at h
  | some o => cases o <;> first | (rw [hb] at h; simp at h; done) | exact ⟨_, _, _, rfl⟩

theorem Only.cell {S : Nat → Prop} {a b : World} (h : Only S a b) {p : Addr} {v : Value} (hc : a.cell? p = some v) (hs : ¬ S p.block) : b.cell? p = some v := by
  obtain ⟨cs, t, fr, hb⟩ := cell_block hc
  have hlt : p.block < a.heap.size := (Array.getElem?_eq_some_iff.1 hb).1
  rw [World.cell?_of_block (w := a) (h.block p.block hlt hs)]; exact hc
theorem Only.cellN {S : Nat → Prop} {a b : World} (h : Only S a b) (hn : NoCells S a) {p : Addr} {v : Value} (hc : a.cell? p = some v) : b.cell? p = some v := by
  obtain ⟨cs, t, fr, hb⟩ := cell_block hc
  exact h.cell hc (fun hs => hn _ _ _ _ hs hb)

theorem Ints.only {S : Nat → Prop} {w w' : World} {a : Option Addr} {n : Nat} {xs : List Int} (h : Ints w a n xs) (g : Only S w w') (hn : NoCells S w) : Ints w' a n xs :=
  ⟨h.1, h.2.1, fun j hj => by
    obtain ⟨ad, e, hb, hc⟩ := h.2.2 j hj
    exact ⟨ad, e, Nat.lt_of_lt_of_le hb g.size, g.cellN hn hc⟩⟩
theorem Ints.onlyAt {S : Nat → Prop} {w w' : World} {a : Option Addr} {n : Nat} {xs : List Int} (h : Ints w a n xs) (g : Only S w w') (hn : ∀ ad, a = some ad → ¬ S ad.block) : Ints w' a n xs :=
  ⟨h.1, h.2.1, fun j hj => by
    obtain ⟨ad, e, hb, hc⟩ := h.2.2 j hj
    exact ⟨ad, e, Nat.lt_of_lt_of_le hb g.size, g.cell hc (by rw [add_block]; exact hn ad e)⟩⟩
theorem RowsAt.only {S : Nat → Prop} {w w' : World} {a : Option Addr} {n : Nat} {L : List (List Int)} (h : RowsAt w a n L) (g : Only S w w') (hn : NoCells S w) : RowsAt w' a n L :=
  ⟨h.1, h.2.1, fun j hj => by
    obtain ⟨ad, a', n', c', e, hb, hc, hi⟩ := h.2.2 j hj
    exact ⟨ad, a', n', c', e, Nat.lt_of_lt_of_le hb g.size, g.cellN hn hc, hi.only g hn⟩⟩
theorem ClAt.only {S : Nat → Prop} {w w' : World} {a : Option Addr} {n : Nat} {C : List Cl} (h : ClAt w a n C) (g : Only S w w') (hn : NoCells S w) : ClAt w' a n C :=
  ⟨h.1, h.2.1, fun j hj => by
    obtain ⟨ad, e, hb, h0, h1, h2, h3⟩ := h.2.2 j hj
    exact ⟨ad, e, Nat.lt_of_lt_of_le hb g.size, g.cellN hn h0, g.cellN hn h1, g.cellN hn h2, g.cellN hn h3⟩⟩
theorem FlAt.only {S : Nat → Prop} {w w' : World} {ta : Option Addr} {tn : Nat} {ca : Option Addr} {cn : Nat} {f : Fl} (h : FlAt w ta tn ca cn f) (g : Only S w w') (hn : NoCells S w) : FlAt w' ta tn ca cn f :=
  ⟨h.t.only g hn, h.c.only g hn⟩

/-- how the body of a round may be left -/
def roundQ {α : Type} (Y : Nat → Prop) (I : List α → World → Prop) (Ix : Code → World → Prop) (xs : List α) (W : World) : Exit → Act → World → Prop
  | .normal, _, W' => Only Y W W' ∧ I xs W'
  | .ret, _, W' => Only Y W W' ∧ Ix .ret W'
  | .exit id, _, W' => Only Y W W' ∧ Ix (.exit id) W'
  | _, _, _ => False

/-- what holds between two rounds: the caller's word, and the loop's own two blocks -/
def Between {α : Type} (D : Nat) (L : Loop) (I : List α → World → Prop) (xs : List α) (W : World) : Prop :=
  I xs W ∧ W.heap[D + 1]? = some (.loop L) ∧ W.heap[D]? = some (.deferred (some []))
/-- what holds when a round has left the loop -/
def Left (D : Nat) (L : Loop) (Ix : Code → World → Prop) (W : World) : Prop :=
  ∃ c, Ix c W ∧ W.heap[D + 1]? = some (.loop { L with state := .done, pending := some c }) ∧ W.heap[D]? = some (.deferred (some []))

/-- **A RANGE OVER A FUNCTION.** D: the heap's size where the loop begins. -/
theorem range_rule {P : Program} {α : Type} {g : Operand} {ps : Array Tmp} {assign body : Code} {Q : Exit → Act → World → Prop} {a : Act} {w : World} {gf : Nat} {lb : Array Value}
    (hg : a.eval g = .func (.func gf) #[] lb) (eg : ∀ args w, (callFunc gf args).run P w = .ok (.enter gf args) w)
    (I : List α → World → Prop) (Ix : Code → World → Prop) (Y : Nat → Prop) (E : α → Array Value → World → Prop) (S : List α → Prop) (a₁ : Array Value → Act)
    (hY0 : ¬ Y w.heap.size) (hY1 : ¬ Y (w.heap.size + 1))
    (hI : ∀ xs W o, I xs W → I xs (W.putObj (w.heap.size + 1) (.loop o))) (hIx : ∀ c W o, Ix c W → Ix c (W.putObj (w.heap.size + 1) (.loop o)))
    (hEs : ∀ x args W, E x args W → args.size = ps.size) (hEp : ∀ x args W o, E x args W → E x args (W.putObj (w.heap.size + 1) (.loop o)))
    (h0 : I [] w) (hIa : ∀ xs W o, I xs W → I xs (W.alloc o))
    (hassign : ∀ (l : Nat) (x : α) (args : Array Value) (W : World) (K : Act → World → Prop), E x args W → K (a₁ args) W →
      assign.wpIn (Fence.wide.inRound l) 0 P (Exit.then K (fun _ _ _ => False)) { tmps := (ps.zip args).foldl (fun t (p, v) => t.setIfInBounds p v) a.tmps, defers := [] } W)
    (hbody : ∀ (pre : List α) (x : α) (args : Array Value) (W : World), I pre W → E x args W → w.heap.size + 1 < W.heap.size → body.wpIn (Fence.wide.inRound (w.heap.size + 1)) 0 P (roundQ Y I Ix (pre ++ [x]) W) (a₁ args) W)
    (hiter : ∀ (L : Loop), L.state = .ready → L.pending = none →
      (∀ pre x args W, Between w.heap.size L I pre W → E x args W → YieldAt Fence.wide 0 P (w.heap.size + 1) args W fun e W' =>
        (e = .returned (.bool true) ∧ Between w.heap.size L I (pre ++ [x]) W' ∧ Only Y W W') ∨ (e = .returned (.bool false) ∧ Left w.heap.size L Ix W')) →
      Between w.heap.size L I [] ((w.alloc (.deferred (some []))).alloc (.loop L)) →
      CallsIn Fence.wide 0 P gf (#[.func (.yield (w.heap.size + 1)) #[] #[]] ++ lb) ((w.alloc (.deferred (some []))).alloc (.loop L)) fun e W' =>
        (∃ v, e = .returned v) ∧ ((∃ xs, S xs ∧ Between w.heap.size L I xs W') ∨ Left w.heap.size L Ix W'))
    (hdone : ∀ (xs : List α) (W : World), S xs → I xs W → W.heap[w.heap.size]? = some (.deferred (some [])) → Q .normal { a with defers := { target := .collected w.heap.size, args := #[] } :: a.defers } W)
    (hstop : ∀ (c : Code) (W : World), Ix c W → W.heap[w.heap.size]? = some (.deferred (some [])) → c.wpIn Fence.wide 0 P Q { a with defers := { target := .collected w.heap.size, args := #[] } :: a.defers } W) :
    (Code.rangeFunc g ps assign body).wp P Q a w := by
  refine (wpIn_wide (n := 0)).1 ?_
  refine wpIn_rangeFunc ?_
  intro fn hfn
  obtain ⟨L, hL⟩ : ∃ L : Loop, L = { state := .ready, pending := none, fn, tmps := a.tmps, params := ps, assign, body, defers := w.heap.size } := ⟨_, rfl⟩
  obtain ⟨W1, hW1⟩ : ∃ W1, (w.alloc (.deferred (some []))).alloc (.loop L) = W1 := ⟨_, rfl⟩
  have hL1 : W1.heap[w.heap.size + 1]? = some (.loop L) := by
    rw [← hW1]; have := World.alloc_heap_new (w.alloc (.deferred (some []))) (.loop L); rwa [World.size_alloc] at this
  have hK1 : W1.heap[w.heap.size]? = some (.deferred (some [])) := by
    rw [← hW1]; exact (Below.heap_alloc _ _ _ (by simp)).trans (World.alloc_heap_new w _)
  have hI1 : I [] W1 := by rw [← hW1]; exact hIa _ _ _ (hIa _ _ _ h0)
  refine ⟨w.heap.size + 1, [{ target := .collected w.heap.size, args := #[] }], W1, { target := .fn (.func gf) lb, args := #[.func (.yield (w.heap.size + 1)) #[] #[]] }, W1, gf,
    #[.func (.yield (w.heap.size + 1)) #[] #[]] ++ lb, W1, ?_, ?_, fun _ _ => trivial, ?_, fun h => by simp [Fence.wide] at h, ?_⟩
  · rw [← hW1, hL]; exact run_enterLoop_outer _ _ _ _ _
  · simp only [resolve, hg]
    simp [go_sem]
  · simp [invoke, go_sem, eg]
  · have hit := hiter L (by rw [hL]) (by rw [hL])
    rw [hW1] at hit
    refine (hit ?_ ⟨hI1, hL1, hK1⟩).mono ?_
    · rintro pre x args W ⟨hi, hl, hk⟩ hE
      have hlt : w.heap.size + 1 < W.heap.size := (Array.getElem?_eq_some_iff.1 hl).1
      have hy := run_yield (P := P) (args := args) hl (by rw [hL]; exact hEs x args W hE)
      rw [hL] at hy
      refine ⟨fn, _, assign, body, hy, roundIn_of_wpIn (F := Fence.wide) trivial (hassign _ x args W _ hE ⟨_, run_beginRound hl (by rw [hL]), ?_⟩)⟩
      have hl2 : (W.putObj (w.heap.size + 1) (.loop { L with state := .busy })).heap[w.heap.size + 1]? = some (.loop { L with state := .busy }) := World.putObj_heap_same hlt
      have hk2 : (W.putObj (w.heap.size + 1) (.loop { L with state := .busy })).heap[w.heap.size]? = some (.deferred (some [])) := (World.putObj_heap_other (by omega)).trans hk
      have hsz2 : (W.putObj (w.heap.size + 1) (.loop { L with state := .busy })).heap.size = W.heap.size := by simp
      refine wpIn_mono (hbody pre x args _ (hI _ _ _ hi) (hEp _ _ _ _ hE) (by rw [hsz2]; exact hlt)) ?_
      have hrest : ∀ (W3 : World) (o : Loop), Only Y (W.putObj (w.heap.size + 1) (.loop { L with state := .busy })) W3 → (W3.putObj (w.heap.size + 1) (.loop o)).heap[w.heap.size]? = some (.deferred (some [])) := fun W3 o ho =>
        (World.putObj_heap_other (by omega)).trans ((ho.block _ (by rw [hsz2]; omega) hY0).trans hk2)
      have hl3 : ∀ (W3 : World), Only Y (W.putObj (w.heap.size + 1) (.loop { L with state := .busy })) W3 → W3.heap[w.heap.size + 1]? = some (.loop { L with state := .busy }) := fun W3 ho =>
        (ho.block _ (by rw [hsz2]; omega) hY1).trans hl2
      rintro e a3 W3 hp
      cases e with
      | normal =>
        obtain ⟨ho, hi3⟩ := hp
        have hl4 := hl3 W3 ho
        have hlt4 : w.heap.size + 1 < W3.heap.size := (Array.getElem?_eq_some_iff.1 hl4).1
        have hrun := run_endRound (P := P) none hl4
        have hLL : ({ ({ L with state := .busy } : Loop) with state := if (none : Option Code).isNone then .ready else .done, pending := none } : Loop) = L := by rw [hL]; rfl
        rw [hLL] at hrun
        refine ⟨_, _, hrun, .inl ⟨rfl, ⟨hI _ _ _ hi3, World.putObj_heap_same hlt4, hrest W3 L ho⟩, ?_⟩⟩
        refine ⟨ho.os, ho.tape, ho.output, by have := ho.size; simp at this ⊢; exact this, fun b hb hn => ?_⟩
        by_cases e : b = w.heap.size + 1
        · subst e; rw [World.putObj_heap_same hlt4, hl]
        · rw [World.putObj_heap_other e, ho.block b (by rw [hsz2]; exact hb) hn, World.putObj_heap_other e]
      | ret =>
        obtain ⟨ho, hi3⟩ := hp
        have hl4 := hl3 W3 ho
        have hlt4 : w.heap.size + 1 < W3.heap.size := (Array.getElem?_eq_some_iff.1 hl4).1
        have hrun := run_endRound (P := P) (some .ret) hl4
        exact ⟨_, _, hrun, .inr ⟨rfl, .ret, hIx _ _ _ hi3, World.putObj_heap_same hlt4, hrest W3 _ ho⟩⟩
      | exit id =>
        obtain ⟨ho, hi3⟩ := hp
        have hl4 := hl3 W3 ho
        have hlt4 : w.heap.size + 1 < W3.heap.size := (Array.getElem?_eq_some_iff.1 hl4).1
        have hrun := run_endRound (P := P) (some (.exit id)) hl4
        exact ⟨_, _, hrun, .inr ⟨rfl, .exit id, hIx _ _ _ hi3, World.putObj_heap_same hlt4, hrest W3 _ ho⟩⟩
      | goto t => exact hp.elim
      | panic ch => exact hp.elim
      | outgrown => exact hp.elim
    · rintro e W2 ⟨⟨v, rfl⟩, (⟨xs, hS, hi, hl, hk⟩ | ⟨c, hi, hl, hk⟩)⟩
      · refine ⟨L.pending, _, run_endLoop (P := P) hl (by rw [hL]; simp), ?_⟩
        have : L.pending = none := by rw [hL]
        rw [this]
        exact hdone xs _ hS (hI _ _ _ hi) ((World.putObj_heap_other (by omega)).trans hk)
      · refine ⟨some c, _, run_endLoop (P := P) hl (by simp), ?_⟩
        exact hstop c _ (hIx _ _ _ hi) ((World.putObj_heap_other (by omega)).trans hk)

theorem run_yield_op {P : Program} {o : Oper} {a : Act} {W : World} {l fn : Nat} {tmps : Array Value} {assign body : Code} {f x : Operand} {ts : Array TypeId} {v : Value} {ro : Option Nat}
    (ho : o.op = .call { callee := .value f, args := #[x], argTypes := ts }) (hf : a.eval f = .func (.yield l) #[] #[]) (hx : a.eval x = v) (hy : (Instr.yield l #[v]).run P W = .ok (.round l fn tmps assign body) W) :
    (o.semAt ro a.eval).run P W = .ok (.round l fn tmps assign body) W := by
  rw [Oper.semAt_eq _ _ _ (by rw [ho]; intro c h; cases h)]
  unfold execOp
  simp only [ho, resolve, hf, hx, Deferred.ofValue, List.map_toArray, List.map_cons, List.map_nil]
  simp [invoke, hy, go_sem]

/-- a call of yield as an operation -/
theorem op_yield {P : Program} {o : Oper} {a : Act} {W : World} {l : Nat} {f x : Operand} {ts : Array TypeId} {v : Value} {ro : Option Nat} {n : Nat} {K : Act → World → Prop} {Q : Exit → Act → World → Prop} {Rr : Ending → World → Prop}
    (ho : o.op = .call { callee := .value f, args := #[x], argTypes := ts }) (hf : a.eval f = .func (.yield l) #[] #[]) (hx : a.eval x = v) (hy : YieldAt Fence.wide 0 P l #[v] W Rr)
    (hr : ∀ e W', Rr e W' → ∃ v', e = .returned v') (hK : ∀ v' W', Rr (.returned v') W' → K (a.put o.dst v') W') : o.wpIn { Fence.wide with round := ro } n P a W K Q := by
  obtain ⟨fn, tmps, assign, body, hy, hR⟩ := hy
  refine ⟨fun _ _ => trivial, ?_⟩
  show Oper.uponIn _ _ _ _ _ _ _ ((o.semAt ro a.eval).run P W)
  rw [run_yield_op ho hf hx hy, Oper.uponIn_round]
  refine ⟨fun h => by simp [Fence.wide] at h, trivial, fun c cs _ => ?_⟩
  obtain ⟨e, w', hRe, hs⟩ := hR.2 c cs (room_wide _)
  obtain ⟨v', rfl⟩ := hr e w' hRe
  exact ⟨.returned v', w', hK v' w' hRe, hs⟩
end
end Go.Proofs.Ytlilojpnhmfnaaa
