/- Contracts: stated, planned, steps, large. -/
import Derived.Test.YtlilojpnhmfnaaaCheckR
import Derived.Test.YtlilojpnhmfnaaaDur
namespace Go.Proofs.Ytlilojpnhmfnaaa
open Go.RowKit
set_option maxHeartbeats 2000000 in
theorem stated_any (ta ca la : Option Addr) (tn tc cn cc ln lc : Nat) (f : Fl) (L : List (List Int)) (w : World) (hf : FlAt w ta tn ca cn f) (hL : RowsAt w la ln L) :
    Calls Try.prog 68 #[.agg #[.slice ta tn tc, .slice ca cn cc], .slice la ln lc] w fun e w' => e = .returned (.int .i64 (statesE f L)) ∧ Gr w w' := by
  have htn := hf.t.lt
  have hln := hL.lt
  have HT := Lib.hid hf.t.len
  have HL := Lib.hid hL.len
  have hga := Gr.alloc w (.cells #[.slice ta tn tc, .slice ca cn cc] 25)
  have hcon := check2_any ta ca tn tc cn cc f _ (hf.gr hga)
  cases hchk : chkB f with
  | false =>
    rw [chkE_of_false hchk] at hcon
    have HCON := Lib.hid hcon
    clear hcon
    go_enter Try.func68, Try.ntmps68
    go_wp2_with (go_at_call 37; refine HCON.out.mono ?_; rintro e w' ⟨rfl, hg⟩)
    go_ret
    exact ⟨ret_int (statesE_bad hchk).symm, hga.trans (by assumption)⟩
  | true =>
    rw [chkE_of_true hchk] at hcon
    have HCON := Lib.hid hcon
    clear hcon
    have hc0 : (w.alloc (.cells #[.slice ta tn tc, .slice ca cn cc] 25)).cell? ⟨w.heap.size, 0, none⟩ = some (.slice ta tn tc) := by simp
    have hc1 : (w.alloc (.cells #[.slice ta tn tc, .slice ca cn cc] 25)).cell? ⟨w.heap.size, 1, none⟩ = some (.slice ca cn cc) := by simp
    have hsz : w.heap.size < (w.alloc (.cells #[.slice ta tn tc, .slice ca cn cc] 25)).heap.size := by simp
    have C0 := Lib.hid hc0
    have C1 := Lib.hid hc1
    have SZ := Lib.hid hsz
    clear hc0 hc1 hsz
    go_enter Try.func68, Try.ntmps68
    go_wp2_with (go_at_call 37; refine HCON.out.mono ?_; rintro e w1 ⟨rfl, hg1⟩)
    have hg1 : Gr (w.alloc (.cells #[.slice ta tn tc, .slice ca cn cc] 25)) w1 := by assumption
    have hc0 := (hg1.cell (p := ⟨w.heap.size, 0, none⟩) SZ.out).trans C0.out
    have hc1 := (hg1.cell (p := ⟨w.heap.size, 1, none⟩) SZ.out).trans C1.out
    have hs1 : w.heap.size < w1.heap.size := Nat.lt_of_lt_of_le SZ.out hg1.size
    have hw1 : Gr w w1 := hga.trans hg1
    clear hga hg1 C0 C1 SZ HCON
    go_loopw [6] (fun i wr => ∃ k : Nat, k ≤ ln ∧ i = .int .i64 k ∧ Gr w1 wr ∧ Hid (∀ j, j < k → stB f.times (L[j]?.getD []) = true)) (fun i _ => ln - (intOf i).toNat)
    case atStart => exact ⟨0, Nat.zero_le _, rfl, Gr.refl _, Lib.hid (by intros; omega)⟩
    case round =>
      obtain ⟨k, hk, rfl, hg, hall⟩ := hrel
      by_cases hlt : k < ln
      · obtain ⟨tt, ra, rn, rc, rfl, htb, htc, hri⟩ := (hL.gr (hw1.trans hg)).at hlt
        have h0 := (hg.cell (p := ⟨w.heap.size, 0, none⟩) hs1).trans hc0
        have h1 := (hg.cell (p := ⟨w.heap.size, 1, none⟩) hs1).trans hc1
        have hsr : w.heap.size < wr.heap.size := Nat.lt_of_lt_of_le hs1 hg.size
        have hsa : (tt.add k).block < wr.heap.size := by rw [add_block]; exact htb
        have hst := state_any ta ca ra tn tc cn cc rn rc f (L[k]?.getD []) wr.drew ((hf.gr (hw1.trans hg)).gr (Gr.drew _)) (hri.gr (Gr.drew _))
        cases hv : stB f.times (L[k]?.getD []) with
        | false =>
          rw [hv] at hst
          have HST := Lib.hid hst
          clear hst
          go_wp2
          go_region_held3 (fun w' => w'.cell? ⟨w.heap.size, 0, none⟩ = some (.slice ta tn tc) ∧ w'.cell? ⟨w.heap.size, 1, none⟩ = some (.slice ca cn cc) ∧ w'.cell? (tt.add k) = some (.slice ra rn rc)) (first | go_keep | exact ⟨by assumption, by assumption, by assumption⟩)
            (first | (go_at_call 67; refine HST.out.mono ?_; rintro e w' ⟨rfl, hg2⟩; have s0 := (hg2.cell (p := ⟨w.heap.size, 0, none⟩) hsr).trans h0; have s1 := (hg2.cell (p := ⟨w.heap.size, 1, none⟩) hsr).trans h1; have s2 := (hg2.cell (p := tt.add k) hsa).trans htc))
          go_wp2
          go_ret
          exact ⟨ret_int (statesE_one hchk (k := k) (by rw [HL.out]; exact hlt) hv).symm, (hw1.trans hg).trans ((Gr.drew _).trans (by assumption))⟩
        | true =>
          rw [hv] at hst
          have HST := Lib.hid hst
          clear hst
          go_wp2
          go_region_held3 (fun w' => w'.cell? ⟨w.heap.size, 0, none⟩ = some (.slice ta tn tc) ∧ w'.cell? ⟨w.heap.size, 1, none⟩ = some (.slice ca cn cc) ∧ w'.cell? (tt.add k) = some (.slice ra rn rc)) (first | go_keep | exact ⟨by assumption, by assumption, by assumption⟩)
            (first | (go_at_call 67; refine HST.out.mono ?_; rintro e w' ⟨rfl, hg2⟩; have s0 := (hg2.cell (p := ⟨w.heap.size, 0, none⟩) hsr).trans h0; have s1 := (hg2.cell (p := ⟨w.heap.size, 1, none⟩) hsr).trans h1; have s2 := (hg2.cell (p := tt.add k) hsa).trans htc))
          go_wp2
          go_roundw
          case rel => exact ⟨k + 1, by omega, by go_num, hg.trans ((Gr.drew _).trans (by assumption)), Lib.hid (fun j hj => by
            by_cases e : j = k
            · subst e; exact hv
            · exact hall.out j (by omega))⟩
          case measure => simp [intOf]; omega
      · obtain rfl : k = ln := by omega
        go_wp2
        go_ret
        exact ⟨ret_int (statesE_ok hchk (fun i hi => hall.out i (by rw [← HL.out]; exact hi))).symm, hw1.trans hg⟩

theorem rows2 {w : World} {B : Nat} {a b : Option Addr} {n c m d : Nat} {xs ys : List Int} (hB : B < w.heap.size) (h0 : w.cell? ⟨B, 0, none⟩ = some (.slice a n c)) (h1 : w.cell? ⟨B, 1, none⟩ = some (.slice b m d))
    (hx : Ints w a n xs) (hy : Ints w b m ys) : RowsAt w (some ⟨B, 0, none⟩) 2 [xs, ys] := by
  refine ⟨rfl, by omega, fun j hj => ?_⟩
  match j, hj with
  | 0, _ => exact ⟨_, a, n, c, rfl, hB, h0, hx⟩
  | 1, _ => exact ⟨_, b, m, d, rfl, hB, h1, hy⟩
theorem rows1 {w : World} {B : Nat} {a : Option Addr} {n c : Nat} {xs : List Int} (hB : B < w.heap.size) (h0 : w.cell? ⟨B, 0, none⟩ = some (.slice a n c)) 
    (hx : Ints w a n xs) : RowsAt w (some ⟨B, 0, none⟩) 1 [xs] := by
  refine ⟨rfl, by omega, fun j hj => ?_⟩
  match j, hj with
  | 0, _ => exact ⟨_, a, n, c, rfl, hB, h0, hx⟩

/-- the errors of two states that work, and a budget -/
def plannedE (f : Fl) (a b : List Int) (budget : Int) : Int := if beginE f budget [a, b] = 0 then (if worksB f a && worksB f b then 0 else 111) else beginE f budget [a, b]

theorem statesE_zero {f : Fl} {L : List (List Int)} (h : statesE f L = 0) : chkB f = true ∧ stsB f.times L = true := by
  unfold statesE at h
  split at h
  · split at h
    · exact ⟨by assumption, by assumption⟩
    · omega
  · omega
theorem stsB_two {T : List (List Int)} {a b : List Int} (h : stsB T [a, b] = true) : stB T a = true ∧ stB T b = true := by
  rw [stsB, List.all_eq_true] at h
  exact ⟨by simpa using h 0 (by simp), by simpa using h 1 (by simp)⟩

theorem clashI_of (f : Fl) (s : List Int) : (worksB f s = true → clashI f s < 0) ∧ (worksB f s = false → 0 ≤ clashI f s) := by
  unfold worksB; constructor
  · intro h; simpa using h
  · intro h; simpa using h

set_option maxHeartbeats 2000000 in
theorem planned_any (ta ca a b : Option Addr) (tn tc cn cc n c m d : Nat) (f : Fl) (xs ys : List Int) (budget : Int) (w : World) (hf : FlAt w ta tn ca cn f) (hx : Ints w a n xs) (hy : Ints w b m ys) :
    Calls Try.prog 52 #[.agg #[.slice ta tn tc, .slice ca cn cc], .slice a n c, .slice b m d, .int .i64 budget] w fun e w' => e = .returned (.int .i64 (plannedE f xs ys budget)) ∧ Gr w w' := by
  have hg2 : Gr w ((w.alloc (.cells #[.slice ta tn tc, .slice ca cn cc] 25)).alloc (.cells #[.slice a n c, .slice b m d] 26)) := (Gr.alloc _ _).allocR _
  have hrows : RowsAt ((w.alloc (.cells #[.slice ta tn tc, .slice ca cn cc] 25)).alloc (.cells #[.slice a n c, .slice b m d] 26)) (some ⟨w.heap.size + 1, 0, none⟩) 2 [xs, ys] :=
    rows2 (c := c) (d := d) (by simp) (by simp) (by simp) (hx.gr hg2) (hy.gr hg2)
  have hcon := Lib.hid (stated_any ta ca _ tn tc cn cc 2 2 f [xs, ys] _ (hf.gr hg2) hrows)
  have hc0 : ((w.alloc (.cells #[.slice ta tn tc, .slice ca cn cc] 25)).alloc (.cells #[.slice a n c, .slice b m d] 26)).cell? ⟨w.heap.size, 0, none⟩ = some (.slice ta tn tc) := by simp
  have hc1 : ((w.alloc (.cells #[.slice ta tn tc, .slice ca cn cc] 25)).alloc (.cells #[.slice a n c, .slice b m d] 26)).cell? ⟨w.heap.size, 1, none⟩ = some (.slice ca cn cc) := by simp
  have hsz : w.heap.size < ((w.alloc (.cells #[.slice ta tn tc, .slice ca cn cc] 25)).alloc (.cells #[.slice a n c, .slice b m d] 26)).heap.size := by simp; omega
  have C0 := Lib.hid hc0
  have C1 := Lib.hid hc1
  have SZ := Lib.hid hsz
  clear hc0 hc1 hsz hrows
  by_cases hz : statesE f [xs, ys] = 0
  · have hzb : (statesE f [xs, ys] != 0) = false := by simp [hz]
    obtain ⟨hchk, hsts⟩ := statesE_zero hz
    have hok := chkB_ok hchk
    have hsx := stB_ok (stsB_two hsts).1
    have hsy := stB_ok (stsB_two hsts).2
    have HZ := Lib.hid hz
    clear hz hchk hsts
    cases hb : withinB budget 0 1000000 with
    | false =>
      go_enter Try.func52, Try.ntmps52
      go_wp2_with (first | (go_at_call 68; refine hcon.out.mono ?_; rintro e w' ⟨rfl, hg⟩) | (go_at_call 63; refine (within2_any _ _ _ _).mono ?_; rintro e w' ⟨rfl, rfl⟩))
      go_ret
      exact ⟨ret_int (by simp [plannedE, beginE, HZ.out, hb]), hg2.trans (by assumption)⟩
    | true =>
      have hbz : beginE f budget [xs, ys] = 0 := by simp [beginE, HZ.out, hb]
      have HBZ := Lib.hid hbz
      clear hbz
      go_enter Try.func52, Try.ntmps52
      go_wp2_with (first | (go_at_call 68; refine hcon.out.mono ?_; rintro e w1 ⟨rfl, hg⟩; have g0 := (hg.cell (p := ⟨w.heap.size, 0, none⟩) SZ.out).trans C0.out; have g1 := (hg.cell (p := ⟨w.heap.size, 1, none⟩) SZ.out).trans C1.out; have gw := hg2.trans hg; have gs := Lib.hid (Nat.lt_of_lt_of_le SZ.out hg.size)) | (go_at_call 63; refine (within2_any _ _ _ _).mono ?_; rintro e w' ⟨rfl, rfl⟩))
      have h0 := clashI_of f xs
      have h1 := clashI_of f ys
      refine (clash2_any ta ca a tn tc cn cc n c f xs w1 (hf.gr gw) hok (hx.gr gw) hsx).mono ?_
      rintro e w2 ⟨rfl, hg3⟩
      have g0 := (hg3.cell (p := ⟨w.heap.size, 0, none⟩) gs.out).trans g0
      have g1 := (hg3.cell (p := ⟨w.heap.size, 1, none⟩) gs.out).trans g1
      have gw2 := gw.trans hg3
      cases hwx : worksB f xs with
      | false =>
        have h0 := h0.2 hwx
        go_wp2_with fail
        go_ret
        exact ⟨ret_int (by simp [plannedE, HBZ.out, hwx]), gw2⟩
      | true =>
        have h0 := h0.1 hwx
        go_wp2_with fail
        refine (clash2_any ta ca b tn tc cn cc m d f ys w2 (hf.gr gw2) hok (hy.gr gw2) hsy).mono ?_
        rintro e w3 ⟨rfl, hg4⟩
        cases hwy : worksB f ys with
        | false =>
          have h1 := h1.2 hwy
          go_wp2_with fail
          go_ret
          exact ⟨ret_int (by simp [plannedE, HBZ.out, hwx, hwy]), gw2.trans hg4⟩
        | true =>
          have h1 := h1.1 hwy
          go_wp2_with fail
          go_ret
          exact ⟨ret_int (by simp [plannedE, HBZ.out, hwx, hwy]), gw2.trans hg4⟩
  · have hzb : (statesE f [xs, ys] != 0) = true := by simp [hz]
    have HZ := Lib.hid hz
    clear hz
    go_enter Try.func52, Try.ntmps52
    go_wp2_with (first | (go_at_call 68; refine hcon.out.mono ?_; rintro e w' ⟨rfl, hg⟩) | (go_at_call 63; refine (within2_any _ _ _ _).mono ?_; rintro e w' ⟨rfl, rfl⟩))
    go_ret
    exact ⟨ret_int (by simp [plannedE, beginE, HZ.out]), hg2.trans (by assumption)⟩

/-- a step leads from one state to another one, within a budget -/
def stepsB (T : List (List Int)) (xs ys : List Int) (budget : Int) : Bool := aboveV ys xs && !decide (xs = ys) && decide (dur T xs ys ≤ budget)

theorem aboveV_le {xs ys : List Int} (h : aboveV ys xs = true) : ∀ c, c < ys.length → xs[c]?.getD 0 ≤ ys[c]?.getD 0 := by
  simpa only [aboveV, List.all_eq_true, List.mem_range, decide_eq_true_eq] using h

set_option maxHeartbeats 2000000 in
theorem steps_any (ta ca a b : Option Addr) (tn tc cn cc n c d : Nat) (f : Fl) (xs ys : List Int) (budget : Int) (w : World) (hf : FlAt w ta tn ca cn f) (hok : FlOk f)
    (hx : Ints w a n xs) (hy : Ints w b n ys) (hsx : StOk f xs) (hsy : StOk f ys) :
    Calls Try.prog 60 #[.agg #[.slice ta tn tc, .slice ca cn cc], .slice a n c, .slice b n d, .int .i64 budget] w fun e w' => e = .returned (.bool (stepsB f.times xs ys budget)) ∧ Gr w w' := by
  have hga := Gr.alloc w (.cells #[.slice ta tn tc, .slice ca cn cc] 25)
  have hab := Lib.hid (above_any b a n d n c ys xs _ (hy.gr hga) (hx.gr hga) (Nat.le_refl _))
  cases h1 : aboveV ys xs with
  | false =>
    go_enter Try.func60, Try.ntmps60
    go_wp2_with (go_at_call 55; refine hab.out.mono ?_; rintro e w' ⟨rfl, q, rfl⟩)
    go_ret
    exact ⟨ret_bool (by simp [stepsB, h1]), hga.drewNR _⟩
  | true =>
    have heq := fun q => Lib.hid (equal_any a b n c n d xs ys ((w.alloc (.cells #[.slice ta tn tc, .slice ca cn cc] 25)).drewN q) (hx.gr (hga.drewNR _)) (hy.gr (hga.drewNR _)))
    have HEQ := Lib.hid heq
    clear heq
    cases h2 : decide (xs = ys) with
    | true =>
      go_enter Try.func60, Try.ntmps60
      go_wp2_with (first | (go_at_call 55; refine hab.out.mono ?_; rintro e w' ⟨rfl, q, rfl⟩) | (go_at_call 50; refine (HEQ.out _).out.mono ?_; rintro e w' ⟨rfl, q2, rfl⟩))
      go_ret
      exact ⟨ret_bool (by rw [stepsB, h2]; simp), (hga.drewNR _)⟩
    | false =>
      have hdu := fun q => Lib.hid (duration_any ta ca a b tn tc cn cc n c d f xs ys ((w.alloc (.cells #[.slice ta tn tc, .slice ca cn cc] 25)).drewN q) (hf.gr (hga.drewNR _)) hok (hx.gr (hga.drewNR _)) (hy.gr (hga.drewNR _)) (fun c hc => (hsx.ver c hc).1) hsy (fun c hc => aboveV_le h1 c (by rw [hsy.len]; exact hc)))
      have HDU := Lib.hid hdu
      clear hdu
      go_enter Try.func60, Try.ntmps60
      go_wp2_with (first | (go_at_call 55; refine hab.out.mono ?_; rintro e w' ⟨rfl, q, rfl⟩) | (go_at_call 50; refine (HEQ.out _).out.mono ?_; rintro e w' ⟨rfl, q2, rfl⟩) | (go_at_call 58; refine (HDU.out _).out.mono ?_; rintro e w' ⟨rfl, hgd⟩))
      go_ret
      exact ⟨ret_bool (by rw [stepsB, h1, h2]; simp), (hga.drewNR _).trans (by assumption)⟩

/-- how many states there are, capped -/
def sizeTo (T : List (List Int)) : Nat → Int
  | 0 => 1
  | k + 1 => sizeTo T k * min (((T[k]?.getD []).length : Int) + 1) 4
def largeB (T : List (List Int)) : Bool := decide (200 < sizeTo T (min T.length 6))

theorem sizeTo_bd (T : List (List Int)) : ∀ k, k ≤ 6 → 1 ≤ sizeTo T k ∧ sizeTo T k ≤ 4096 := by
  have h : ∀ k, 1 ≤ sizeTo T k ∧ sizeTo T k ≤ 4 ^ k := by
    intro k
    induction k with
    | zero => simp [sizeTo]
    | succ k ih =>
      simp only [sizeTo]
      have h1 : (1 : Int) ≤ min (((T[k]?.getD []).length : Int) + 1) 4 := by omega
      have h2 : min (((T[k]?.getD []).length : Int) + 1) 4 ≤ 4 := by omega
      generalize min (((T[k]?.getD []).length : Int) + 1) 4 = m at *
      constructor
      · have := Int.mul_le_mul ih.1 h1 (by omega) (by omega); omega
      · have := Int.mul_le_mul ih.2 h2 (by omega) (by have := ih.1; omega)
        rw [Int.pow_succ]; exact this
  intro k hk
  have := h k
  have h3 : (4 : Int) ^ k ≤ 4096 := by
    match k, hk with
    | 0, _ => decide
    | 1, _ => decide
    | 2, _ => decide
    | 3, _ => decide
    | 4, _ => decide
    | 5, _ => decide
    | 6, _ => decide
  omega

set_option maxHeartbeats 2000000 in
theorem large_any (ta ca : Option Addr) (tn tc cn cc : Nat) (f : Fl) (w : World) (hf : FlAt w ta tn ca cn f) :
    Calls Try.prog 15 #[.agg #[.slice ta tn tc, .slice ca cn cc]] w fun e w' => e = .returned (.bool (largeB f.times)) ∧ Gr w w' := by
  have htn := hf.t.lt
  have HT := Lib.hid hf.t.len
  have HB := Lib.hid (sizeTo_bd f.times)
  go_enter Try.func15, Try.ntmps15
  go_wp2
  obtain ⟨w1, hw1⟩ : ∃ w1, w.alloc (.cells #[.slice ta tn tc, .slice ca cn cc] 25) = w1 := ⟨_, rfl⟩
  have hg1 : Gr w w1 := by rw [← hw1]; exact Gr.alloc _ _
  have hc0 : w1.cell? ⟨w.heap.size, 0, none⟩ = some (.slice ta tn tc) := by rw [← hw1]; simp
  rw [hw1]
  clear hw1
  go_loop [3, 4] (fun t i => ∃ k : Nat, k ≤ tn ∧ k ≤ 6 ∧ i = .int .i64 k ∧ t = .int .i64 (sizeTo f.times k)) (fun _ i => tn - (intOf i).toNat)
  case atStart => exact ⟨0, Nat.zero_le _, by omega, rfl, rfl⟩
  case round =>
    obtain ⟨k, hk, hk6, rfl, rfl⟩ := hrel
    by_cases hlt : k < tn
    · by_cases hl6 : (k : Int) < 6
      · obtain ⟨tt, ra, rn, rc, rfl, htb, htc, hri⟩ := (hf.t.gr hg1).at hlt
        have hrl := hri.lt
        have HR := Lib.hid hri.len
        have hb := HB.out (k + 1) (by omega)
        have hb0 := HB.out k (by omega)
        have hsn : sizeTo f.times (k + 1) = sizeTo f.times k * min ((rn : Int) + 1) 4 := by simp only [sizeTo, HR.out]
        have HS := Lib.hid hsn
        rw [hsn] at hb
        clear hsn
        have hif : (if (4 : Int) < (rn : Int) + 1 then (4 : Int) else (rn : Int) + 1) = min ((rn : Int) + 1) 4 := by split <;> omega
        have HIF := Lib.hid hif
        clear hif
        go_wp2
        go_round
        case rel => exact ⟨k + 1, by omega, by omega, by go_num, by rw [HS.out, HIF.out, IntWalk.wrap64_in _ (by omega)]⟩
        case measure => simp [intOf]; omega
      · go_wp2
        go_ret
        exact ⟨ret_bool (by have : min f.times.length 6 = k := by rw [HT.out]; omega
                            rw [largeB, this]), hg1⟩
    · go_wp2
      go_ret
      exact ⟨ret_bool (by have : min f.times.length 6 = k := by rw [HT.out]; omega
                          rw [largeB, this]), hg1⟩
end Go.Proofs.Ytlilojpnhmfnaaa
