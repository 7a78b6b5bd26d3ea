/- Several texts of this claim in one file. (1) Contracts: keyOf, cmp.Compare, cmp.Or. (2) Plain words for the planner: the best rest of a plan from a state. No program in sight. (3) The planner: its words, and best where the state is the end, or not below it. (4) The planner: best, up to its memo. (5) The planner: what holds in the loop of best. (6) The planner: a round of the loop of best. (7) A function that holds a range over a function: how it is opened, and how it returns. Nothing of the program is proved here. -/
import Derived.Test.YtlilojpnhmfnaaaBd3
import Derived.Laws.CopyOwn
import Derived.Outline
import Derived.Deep.QuietTactic
import Derived.BigQuiet
import Derived.RangeFuncNested
import Derived.RangeFuncBound
import Derived.RangeFuncCalls
import Derived.RangeFuncLeaves
import Derived.OwnWalkIn
import Derived.TacticsInMore
import Derived.IntWalk
namespace Go.Proofs.Ytlilojpnhmfnaaa
section
set_option linter.unusedVariables false
open Go.RowKit

theorem splice_get (xs : List Int) (h : xs.length ≤ 6) (j : Nat) (hj : j < 6) : (splice [Value.int .i64 0, .int .i64 0, .int .i64 0, .int .i64 0, .int .i64 0, .int .i64 0] 0 (xs.map (Value.int .i64)))[j]? = some (.int .i64 (xs[j]?.getD 0)) := by
  unfold splice
  by_cases hx : j < xs.length
  · simp [List.getElem?_append_left, hx]
  · have e : xs[j]? = none := List.getElem?_eq_none (by omega)
    simp [e]
    rw [List.getElem?_append_right (by simp; omega)]
    simp
    have : xs.length + (j - xs.length) = j := by omega
    rw [this]
    have : j = 0 ∨ j = 1 ∨ j = 2 ∨ j = 3 ∨ j = 4 ∨ j = 5 := by omega
    rcases this with rfl | rfl | rfl | rfl | rfl | rfl <;> rfl

set_option maxRecDepth 100000 in
set_option maxHeartbeats 400000 in
theorem keyOf_any (a : Option Addr) (n c : Nat) (xs : List Int) (w : World) (hx : Ints w a n xs) (h0 : 0 < n) (hn : n ≤ 6) : Calls Try.prog 57 #[.slice a n c] w fun e w' => e = .returned (keyV xs) ∧ Gr w w' := by
  have hxg := hx.gr (Gr.alloc w (.cells #[.int .i64 0, .int .i64 0, .int .i64 0, .int .i64 0, .int .i64 0, .int .i64 0] 89))
  have hlen := hx.len
  obtain ⟨ad, rfl, hab, _⟩ := hx.at h0
  obtain ⟨w', hw'⟩ : ∃ w' : World, w' = (w.alloc (.cells #[.int .i64 0, .int .i64 0, .int .i64 0, .int .i64 0, .int .i64 0, .int .i64 0] 89)).setRow w.heap.size (splice [.int .i64 0, .int .i64 0, .int .i64 0, .int .i64 0, .int .i64 0, .int .i64 0] 0 (xs.map (Value.int .i64))).toArray := ⟨_, rfl⟩
  have hrun : (Builtin.copy_ #[26, 26] 3 #[.slice (some ⟨w.heap.size, 0, none⟩) 6 6, .slice (some ad) n c]).run Try.prog (w.alloc (.cells #[.int .i64 0, .int .i64 0, .int .i64 0, .int .i64 0, .int .i64 0, .int .i64 0] 89)) = .ok (goInt n) w' := by
    have := run_copy_row (P := Try.prog) (w.alloc (.cells #[.int .i64 0, .int .i64 0, .int .i64 0, .int .i64 0, .int .i64 0, .int .i64 0] 89)) 26 26 3 3 w.heap.size 0 6 6 ad n c _ 89 (xs.map (Value.int .i64)) Try.underlying26 (by kernel_rfl) (World.alloc_heap_new _ _) (by rw [List.length_map, hlen]; exact (Nat.min_eq_left hn).symm) hxg.cells (by simp [hlen]; exact hn) (ints_one xs)
    rw [this, hw']
    simp [splice, hlen]
  have hh : w'.heap[w.heap.size]? = some (.cells (splice [.int .i64 0, .int .i64 0, .int .i64 0, .int .i64 0, .int .i64 0, .int .i64 0] 0 (xs.map (Value.int .i64))).toArray 89 (0, 0)) := by
    rw [hw']; exact (setRow_heap _ _ _ _ _ _ (World.alloc_heap_new _ _))
  have hg : Gr w w' := by
    rw [hw']; exact below_setRow (Gr.alloc _ _) (Nat.le_refl _) _
  have hc : ∀ j, j < 6 → w'.cell? ⟨w.heap.size, j, none⟩ = some (.int .i64 (xs[j]?.getD 0)) := fun j hj => by
    unfold World.cell?
    simp only [hh, List.getElem?_toArray]
    exact splice_get xs (by rw [hlen]; exact hn) j hj
  have hf : ∀ j, w'.frozen? ⟨w.heap.size, j, none⟩ = false := fun j => by
    unfold World.frozen?
    simp [hh]
  have h0 := hc 0 (by decide)
  have h1 := hc 1 (by decide)
  have h2 := hc 2 (by decide)
  have h3 := hc 3 (by decide)
  have h4 := hc 4 (by decide)
  have h5 := hc 5 (by decide)
  clear hc hh hw' hlen
  go_enter Try.func57, Try.ntmps57
  go_wp2
  refine bodyPost_ret (v := keyV xs) (by simp [results, Try.results57, go_sem, keyV, h0, h1, h2, h3, h4, h5]) rfl ⟨rfl, ?_⟩
  exact (((((hg.setCell (Nat.le_refl _) _).setCell (Nat.le_refl _) _).setCell (Nat.le_refl _) _).setCell (Nat.le_refl _) _).setCell (Nat.le_refl _) _).setCell (Nat.le_refl _) _

theorem isNaN_any (x : Int) (w : World) : Calls Try.prog 97 #[.int .i64 x] w fun e w' => e = .returned (.bool false) ∧ w = w' := by
  go_enter Try.func97, Try.ntmps97
  go_wp2
  go_ret
  exact ⟨by simp, rfl⟩

/-- -1, 0, 1 -/
def cmpI (x y : Int) : Int := if x < y then -1 else if y < x then 1 else 0

theorem compare_any (x y : Int) (w : World) : Calls Try.prog 83 #[.int .i64 x, .int .i64 y] w fun e w' => e = .returned (.int .i64 (cmpI x y)) ∧ w = w' := by
  by_cases h1 : x < y
  · have hc := Lib.hid (show cmpI x y = -1 by simp [cmpI, h1])
    go_enter Try.func83, Try.ntmps83
    go_wp2_with (go_at_call 97; refine (isNaN_any _ _).mono ?_; rintro e w' ⟨rfl, rfl⟩)
    go_ret
    exact ⟨by rw [hc.out]; rfl, rfl⟩
  · by_cases h2 : y < x
    · have hc := Lib.hid (show cmpI x y = 1 by simp [cmpI, h1, h2])
      go_enter Try.func83, Try.ntmps83
      go_wp2_with (go_at_call 97; refine (isNaN_any _ _).mono ?_; rintro e w' ⟨rfl, rfl⟩)
      go_ret
      exact ⟨by rw [hc.out]; rfl, rfl⟩
    · have hc := Lib.hid (show cmpI x y = 0 by simp [cmpI, h1, h2])
      go_enter Try.func83, Try.ntmps83
      go_wp2_with (go_at_call 97; refine (isNaN_any _ _).mono ?_; rintro e w' ⟨rfl, rfl⟩)
      go_ret
      exact ⟨by rw [hc.out]; rfl, rfl⟩

/-- the first of two that is not 0 -/
def orI (x y : Int) : Int := if x = 0 then y else x
theorem or_any (ad : Addr) (c : Nat) (x y : Int) (w : World) (h0 : w.cell? (ad.add 0) = some (.int .i64 x)) (h1 : w.cell? (ad.add 1) = some (.int .i64 y)) : Calls Try.prog 82 #[.slice (some ad) 2 c] w fun e w' => e = .returned (.int .i64 (orI x y)) ∧ w = w' := by
  have hc : ∀ k : Nat, k < 2 → w.cell? (ad.add k) = some (.int .i64 (if k = 0 then x else y)) := fun k hk => by
    have : k = 0 ∨ k = 1 := by omega
    rcases this with rfl | rfl
    · simpa using h0
    · simpa using h1
  have HC := Lib.hid hc
  clear hc h0 h1
  go_enter Try.func82, Try.ntmps82
  go_wp2
  go_loop [8] (fun i => ∃ k : Nat, k ≤ 2 ∧ i = .int .i64 k ∧ (1 ≤ k → Hid (x = 0)) ∧ (2 ≤ k → Hid (y = 0))) (fun i => 2 - (intOf i).toNat)
  case atStart => exact ⟨0, by omega, rfl, by omega, by omega⟩
  case round =>
    obtain ⟨k, hk, rfl, hx, hy⟩ := hrel
    by_cases hlt : k < 2
    · have hcell := HC.out k hlt
      generalize hz : (if k = 0 then x else y) = z at hcell
      have HZ := Lib.hid hz
      clear hz
      cases hb : (z != 0) with
      | true =>
        go_wp2
        go_ret
        refine ⟨ret_int ?_, rfl⟩
        have hz0 : z ≠ 0 := by simpa using hb
        have := HZ.out
        have hk01 : k = 0 ∨ k = 1 := by omega
        rcases hk01 with rfl | rfl
        · simp at this; subst this; unfold orI; rw [if_neg hz0]
        · simp at this; subst this; unfold orI; rw [if_pos (hx (by omega)).out]
      | false =>
        go_wp2
        go_round
        case rel =>
          have hz0 : z = 0 := by simpa using hb
          have := HZ.out
          refine ⟨k + 1, by omega, by go_num, fun _ => Lib.hid ?_, fun h2 => Lib.hid ?_⟩
          · by_cases e : k = 0
            · simp [e] at this; omega
            · exact (hx (by omega)).out
          · have e : k = 1 := by omega
            simp [e] at this; omega
        case measure => simp [intOf]; omega
    · obtain rfl : k = 2 := by omega
      go_wp2
      go_ret
      have hx0 := (hx (by omega)).out
      have hy0 := (hy (by omega)).out
      exact ⟨ret_int (by simp [orI, hx0, hy0]), rfl⟩
end
section
/-- what is left of a plan -/
structure Rs where
  steps : Int
  time : Int
  nxt : List Int
  is : Bool
def Rs.no : Rs := ⟨0, 0, [], false⟩
def Rs.fin : Rs := ⟨0, 0, [], true⟩
def rsLess (a b : Rs) : Bool := decide (orI (cmpI a.steps b.steps) (cmpI a.time b.time) < 0)
def Rs.via (T : List (List Int)) (s s' : List Int) (x : Rs) : Rs := ⟨x.steps + 1, x.time + dur T s s', s', true⟩

def bestStep (T : List (List Int)) (bu : Int) (s : List Int) (rec : List Int → Rs) (best : Rs) (s' : List Int) : Rs :=
  if stepsB T s s' bu then (if (rec s').is then (if !best.is || rsLess ((rec s').via T s s') best then (rec s').via T s s' else best) else best) else best

def bestF (f : Fl) (to : List Int) (bu : Int) : Nat → List Int → Rs
  | 0, s => if s = to then Rs.fin else Rs.no
  | k + 1, s => if s = to then Rs.fin else if aboveV to s then (enum f s to s.length []).foldl (bestStep f.times bu s (bestF f to bu k)) Rs.no else Rs.no

/-- how far a state is from another one -/
def gapTo (s to : List Int) : Nat → Nat
  | 0 => 0
  | k + 1 => gapTo s to k + (to[k]?.getD 0 - s[k]?.getD 0).toNat
def gap (s to : List Int) : Nat := gapTo s to to.length
def bestV (f : Fl) (to : List Int) (bu : Int) (s : List Int) : Rs := bestF f to bu (gap s to) s

theorem gapTo_le {s t to : List Int} : ∀ k, (∀ c, c < k → s[c]?.getD 0 ≤ t[c]?.getD 0) → gapTo t to k ≤ gapTo s to k := by
  intro k
  induction k with
  | zero => intro _; simp [gapTo]
  | succ k ih =>
    intro h
    have := ih (fun c hc => h c (by omega))
    have := h k (by omega)
    simp only [gapTo]; omega
theorem gapTo_lt {s t to : List Int} : ∀ k, (∀ c, c < k → s[c]?.getD 0 ≤ t[c]?.getD 0) → (∀ c, c < k → t[c]?.getD 0 ≤ to[c]?.getD 0) → (∃ c, c < k ∧ s[c]?.getD 0 ≠ t[c]?.getD 0) → gapTo t to k < gapTo s to k := by
  intro k
  induction k with
  | zero => rintro _ _ ⟨c, hc, _⟩; omega
  | succ k ih =>
    rintro h h2 ⟨c, hc, hne⟩
    simp only [gapTo]
    have hk := h k (by omega)
    have hk2 := h2 k (by omega)
    by_cases e : c = k
    · subst e
      have := gapTo_le (to := to) c (fun c' hc' => h c' (by omega))
      omega
    · have := ih (fun c hc => h c (by omega)) (fun c hc => h2 c (by omega)) ⟨c, by omega, hne⟩
      omega

/-- between two states -/
structure Btw (lo hi s : List Int) : Prop where
  len : s.length = lo.length
  ge : ∀ c, c < lo.length → lo[c]?.getD 0 ≤ s[c]?.getD 0
  le : ∀ c, c < lo.length → s[c]?.getD 0 ≤ hi[c]?.getD 0

theorem enum_btw {f : Fl} {lo hi : List Int} : ∀ (k : Nat) (pre s : List Int), pre.length + k = lo.length → s ∈ enum f lo hi k pre →
    s.length = lo.length ∧ worksB f s = true ∧ (∀ c, c < pre.length → s[c]?.getD 0 = pre[c]?.getD 0) ∧ ∀ c, pre.length ≤ c → c < lo.length → lo[c]?.getD 0 ≤ s[c]?.getD 0 ∧ s[c]?.getD 0 ≤ hi[c]?.getD 0 := by
  intro k
  induction k with
  | zero =>
    intro pre s hl hs
    simp only [enum] at hs
    split at hs
    · simp at hs; subst hs; exact ⟨by omega, by assumption, fun _ _ => rfl, fun c h1 h2 => by omega⟩
    · simp at hs
  | succ k ih =>
    intro pre s hl hs
    simp only [enum, List.mem_flatMap, List.mem_range] at hs
    obtain ⟨i, hi, hs⟩ := hs
    obtain ⟨h1, h2, h3, h4⟩ := ih _ s (by simp; omega) hs
    refine ⟨h1, h2, fun c hc => ?_, fun c hc hlt => ?_⟩
    · rw [h3 c (by simp; omega), List.getElem?_append_left hc]
    · by_cases e : c = pre.length
      · subst e
        rw [h3 _ (by simp)]
        simp
        omega
      · exact h4 c (by simp; omega) hlt
theorem enum_between {f : Fl} {lo hi s : List Int} (hs : s ∈ enum f lo hi lo.length []) : Btw lo hi s ∧ worksB f s = true := by
  obtain ⟨h1, h2, _, h4⟩ := enum_btw lo.length [] s (by simp) hs
  exact ⟨⟨h1, fun c hc => (h4 c (by simp) hc).1, fun c hc => (h4 c (by simp) hc).2⟩, h2⟩

theorem stepsB_true {T : List (List Int)} {s t : List Int} {bu : Int} (h : stepsB T s t bu = true) : aboveV t s = true ∧ s ≠ t ∧ dur T s t ≤ bu := by
  simp only [stepsB, Bool.and_eq_true, Bool.not_eq_true', decide_eq_true_eq, decide_eq_false_iff_not] at h
  exact ⟨h.1.1, h.1.2, h.2⟩

theorem ne_at {s t : List Int} (hl : s.length = t.length) (h : s ≠ t) : ∃ c, c < s.length ∧ s[c]?.getD 0 ≠ t[c]?.getD 0 := by
  by_cases hex : ∃ c, c < s.length ∧ s[c]?.getD 0 ≠ t[c]?.getD 0
  · exact hex
  · exact absurd ((eqUpto_iff hl).1 (fun j hj => Classical.byContradiction fun hne => hex ⟨j, hj, hne⟩)) h

theorem gap_lt {s t to : List Int} {hl : s.length = to.length} (h : Btw s to t) (hne : s ≠ t) : gap t to < gap s to :=
  gapTo_lt to.length (fun c hc => h.ge c (by omega)) (fun c hc => h.le c (by omega)) (by rw [← hl]; exact ne_at h.len.symm hne)

theorem foldl_congr {α β : Type} {g h : β → α → β} : ∀ (l : List α) (b : β), (∀ x ∈ l, ∀ b, g b x = h b x) → l.foldl g b = l.foldl h b := by
  intro l
  induction l with
  | nil => intro b _; rfl
  | cons x l ih =>
    intro b hx
    simp only [List.foldl_cons]
    rw [hx x (by simp), ih _ (fun y hy => hx y (by simp [hy]))]

theorem bestStep_congr {T : List (List Int)} {bu : Int} {s s' : List Int} {r r' : List Int → Rs} (h : stepsB T s s' bu = true → r s' = r' s') (b : Rs) : bestStep T bu s r b s' = bestStep T bu s r' b s' := by
  unfold bestStep
  cases hb : stepsB T s s' bu with
  | false => simp
  | true => rw [h hb]

theorem above_gap_zero {s to : List Int} (hl : s.length = to.length) (ha : aboveV to s = true) (hg : gap s to = 0) : s = to := by
  have hle := aboveV_le ha
  have hz : ∀ k, k ≤ to.length → gapTo s to k = 0 → ∀ c, c < k → s[c]?.getD 0 = to[c]?.getD 0 := by
    intro k
    induction k with
    | zero => intro _ _ c hc; omega
    | succ k ih =>
      intro hk h0 c hc
      simp only [gapTo] at h0
      by_cases e : c = k
      · subst e; have := hle c (by omega); omega
      · exact ih (by omega) (by omega) c (by omega)
  exact (eqUpto_iff hl).1 (fun j hj => hz to.length (Nat.le_refl _) hg j (by omega))

theorem bestF_fuel {f : Fl} {to : List Int} {bu : Int} : ∀ (k k' : Nat) (s : List Int), s.length = to.length → gap s to ≤ k → gap s to ≤ k' → bestF f to bu k s = bestF f to bu k' s := by
  intro k
  induction k with
  | zero =>
    intro k' s hl h0 _
    cases k' with
    | zero => rfl
    | succ k' =>
      simp only [bestF]
      by_cases hs : s = to
      · simp [hs]
      · simp only [hs, if_false]
        rw [if_neg]
        intro ha
        exact hs (above_gap_zero hl ha (by omega))
  | succ k ih =>
    intro k' s hl h0 h1
    cases k' with
    | zero =>
      simp only [bestF]
      by_cases hs : s = to
      · simp [hs]
      · simp only [hs, if_false]
        rw [if_neg]
        intro ha
        exact hs (above_gap_zero hl ha (by omega))
    | succ k' =>
      simp only [bestF]
      by_cases hs : s = to
      · simp [hs]
      · simp only [hs, if_false]
        split
        · refine foldl_congr _ _ (fun x hx b => bestStep_congr (fun hst => ?_) b)
          have hb := (enum_between hx).1
          have hlt := gap_lt (hl := hl) hb (stepsB_true hst).2.1
          exact ih k' x (by rw [hb.len, hl]) (by omega) (by omega)
        · rfl

theorem bestV_eq {f : Fl} {to : List Int} {bu : Int} {s : List Int} (hl : s.length = to.length) :
    bestV f to bu s = if s = to then Rs.fin else if aboveV to s then (enum f s to s.length []).foldl (bestStep f.times bu s (bestV f to bu)) Rs.no else Rs.no := by
  have : bestV f to bu s = bestF f to bu (gap s to + 1) s := bestF_fuel _ _ s hl (Nat.le_refl _) (by omega)
  rw [this]
  simp only [bestF]
  by_cases hs : s = to
  · simp [hs]
  · simp only [hs, if_false]
    split
    · refine foldl_congr _ _ (fun x hx b => bestStep_congr (fun hst => ?_) b)
      have hb := (enum_between hx).1
      have hlt := gap_lt (hl := hl) hb (stepsB_true hst).2.1
      exact bestF_fuel _ _ x (by rw [hb.len, hl]) (by omega) (Nat.le_refl _)
    · rfl

theorem StOk.btw {f : Fl} {lo hi s : List Int} (hlo : StOk f lo) (hhi : StOk f hi) (h : Btw lo hi s) : StOk f s :=
  ⟨by rw [h.len, hlo.len], fun c hc => by
    have h1 := h.ge c (by rw [hlo.len]; exact hc)
    have h2 := h.le c (by rw [hlo.len]; exact hc)
    have := hlo.ver c hc
    have := hhi.ver c hc
    omega⟩

/-- its numbers are bounded -/
structure Rs.Bd (r : Rs) (k : Nat) : Prop where
  s0 : 0 ≤ r.steps
  s1 : r.steps ≤ k
  t0 : 0 ≤ r.time
  t1 : r.time ≤ 60000 * k

theorem bestStep_bd {f : Fl} {bu : Int} {s s' : List Int} {rec : List Int → Rs} {k : Nat} (hok : FlOk f) (hs : StOk f s) (hs' : StOk f s') (hr : stepsB f.times s s' bu = true → (rec s').Bd k) {b : Rs} (hb : b.Bd (k + 1)) : (bestStep f.times bu s rec b s').Bd (k + 1) := by
  unfold bestStep
  cases hst : stepsB f.times s s' bu with
  | false => simpa using hb
  | true =>
    have h := hr hst
    have ha := aboveV_le (stepsB_true hst).1
    have hd := durTo_bd hok (fun c hc => (hs.ver c hc).1) hs' (fun c hc => ha c (by rw [hs'.len]; exact hc)) f.times.length (Nat.le_refl _)
    have hdur : dur f.times s s' = durTo f.times s s' f.times.length := by unfold dur; rw [hs'.len]
    have h6 := hok.n6
    simp only [if_true]
    have := h.s0
    have := h.s1
    have := h.t0
    have := h.t1
    split
    · split
      · exact ⟨by simp only [Rs.via]; omega, by simp only [Rs.via]; omega, by simp only [Rs.via]; omega, by simp only [Rs.via]; omega⟩
      · exact hb
    · exact hb

theorem Rs.Bd.mono {r : Rs} {k k' : Nat} (h : r.Bd k) (hk : k ≤ k') : r.Bd k' := ⟨h.s0, by have := h.s1; omega, h.t0, by have := h.t1; omega⟩

theorem bestF_bd {f : Fl} {to : List Int} {bu : Int} (hok : FlOk f) (hto : StOk f to) : ∀ (k : Nat) (s : List Int), StOk f s → (bestF f to bu k s).Bd k := by
  intro k
  induction k with
  | zero => intro s hs; simp only [bestF]; split <;> exact ⟨by simp [Rs.fin, Rs.no], by simp [Rs.fin, Rs.no], by simp [Rs.fin, Rs.no], by simp [Rs.fin, Rs.no]⟩
  | succ k ih =>
    intro s hs
    simp only [bestF]
    split
    · exact ⟨by simp [Rs.fin], by simp [Rs.fin]; omega, by simp [Rs.fin], by simp [Rs.fin]; omega⟩
    · split
      · have h0 : Rs.no.Bd (k + 1) := ⟨by simp [Rs.no], by simp [Rs.no]; omega, by simp [Rs.no], by simp [Rs.no]; omega⟩
        have : ∀ (l : List (List Int)) (b : Rs), (∀ x ∈ l, StOk f x) → b.Bd (k + 1) → (l.foldl (bestStep f.times bu s (bestF f to bu k)) b).Bd (k + 1) := by
          intro l
          induction l with
          | nil => intro b _ hb; exact hb
          | cons x l ihl =>
            intro b hx hb
            exact ihl _ (fun y hy => hx y (by simp [hy])) (bestStep_bd hok hs (hx x (by simp)) (fun _ => ih x (hx x (by simp))) hb)
        exact this _ _ (fun x hx => hs.btw hto (enum_between hx).1) h0
      · exact ⟨by simp [Rs.no], by simp [Rs.no]; omega, by simp [Rs.no], by simp [Rs.no]; omega⟩

theorem gapTo_bd {f : Fl} {s to : List Int} (hok : FlOk f) (hs : StOk f s) (hto : StOk f to) : ∀ k, k ≤ f.times.length → gapTo s to k ≤ 3 * k := by
  intro k
  induction k with
  | zero => intro _; simp [gapTo]
  | succ k ih =>
    intro hk
    have := ih (by omega)
    have := (hs.ver k (by omega)).1
    have := (hto.ver k (by omega)).2
    have := hok.row k (by omega)
    simp only [gapTo]; omega
theorem bestV_bd {f : Fl} {to : List Int} {bu : Int} (hok : FlOk f) (hto : StOk f to) (s : List Int) (hs : StOk f s) : (bestV f to bu s).Bd 18 :=
  (bestF_bd hok hto _ s hs).mono (by
    have := gapTo_bd hok hs hto to.length (by rw [hto.len]; exact Nat.le_refl _)
    have := hok.n6
    have := hto.len
    unfold gap; omega)
end
section
set_option linter.unusedVariables false
open Go.RowKit

theorem Ints.nil (W : World) : Ints W none 0 [] := ⟨rfl, by omega, fun j hj => by omega⟩
/-- a rest in memory; the next state lies in no block of X -/
def RestV (X : Nat → Prop) (W : World) (v : Value) (r : Rs) : Prop := ∃ a k c, v = .agg #[.int .i64 r.steps, .int .i64 r.time, .slice a k c, .bool r.is] ∧ Ints W a k r.nxt ∧ ∀ ad, a = some ad → ¬ X ad.block ∧ Is3 W ad.block
theorem RestV.only {X S : Nat → Prop} {W W' : World} {v : Value} {r : Rs} (h : RestV X W v r) (g : Only S W W') (hn : NoCells S W) : RestV X W' v r := by
  obtain ⟨a, k, c, h1, h2, h3⟩ := h
  exact ⟨a, k, c, h1, h2.only g hn, fun ad e => ⟨(h3 ad e).1, (h3 ad e).2.onlyN g hn⟩⟩
/-- the blocks of X may turn -/
theorem RestV.onlyX {X S : Nat → Prop} {W W' : World} {v : Value} {r : Rs} (h : RestV X W v r) (g : Only S W W') (hs : ∀ b, S b → X b) : RestV X W' v r := by
  obtain ⟨a, k, c, h1, h2, h3⟩ := h
  exact ⟨a, k, c, h1, h2.onlyAt g (fun ad e hS => (h3 ad e).1 (hs _ hS)), fun ad e => ⟨(h3 ad e).1, (h3 ad e).2.only g (fun hS => (h3 ad e).1 (hs _ hS))⟩⟩
theorem RestV.gr {X : Nat → Prop} {W W' : World} {v : Value} {r : Rs} (h : RestV X W v r) (g : Gr W W') : RestV X W' v r := by
  obtain ⟨a, k, c, h1, h2, h3⟩ := h
  exact ⟨a, k, c, h1, h2.gr g, fun ad e => ⟨(h3 ad e).1, (h3 ad e).2.gr g⟩⟩
theorem RestV.wide {X X' : Nat → Prop} {W : World} {v : Value} {r : Rs} (h : RestV X W v r) (hx : ∀ b, b < W.heap.size → X' b → X b) : RestV X' W v r := by
  obtain ⟨a, k, c, h1, h2, h3⟩ := h
  exact ⟨a, k, c, h1, h2, fun ad e => ⟨fun hX => (h3 ad e).1 (hx _ (h3 ad e).2.lt hX), (h3 ad e).2⟩⟩

/-- the planner's data -/
structure PP where
  bp : Nat
  m : Nat
  ta : Option Addr
  tn : Nat
  tc : Nat
  ca : Option Addr
  cn : Nat
  cc : Nat
  toa : Option Addr
  toc : Nat
  n : Nat
  f : Fl
  to : List Int
  bu : Int

structure PInv (q : PP) (X : Nat → Prop) (W : World) : Prop where
  c0 : W.cell? ⟨q.bp, 0, none⟩ = some (.slice q.ta q.tn q.tc)
  c1 : W.cell? ⟨q.bp, 1, none⟩ = some (.slice q.ca q.cn q.cc)
  c2 : W.cell? ⟨q.bp, 2, none⟩ = some (.slice q.toa q.n q.toc)
  c3 : W.cell? ⟨q.bp, 3, none⟩ = some (.int .i64 q.bu)
  c4 : W.cell? ⟨q.bp, 4, none⟩ = some (.map (some q.m))
  fl : FlAt W q.ta q.tn q.ca q.cn q.f
  ito : Ints W q.toa q.n q.to
  memo : Memo W q.m (fun s v => s.length = q.n ∧ RestV X W v (bestV q.f q.to q.bu s))

structure PHyp (q : PP) : Prop where
  ok : FlOk q.f
  sto : StOk q.f q.to
  nt : q.n = q.f.times.length

theorem PInv.noc {q : PP} {X : Nat → Prop} {W : World} (h : PInv q X W) : NoCells (fun b => b = q.m) W := by
  obtain ⟨es, clk, hb, _, _⟩ := h.memo
  intro b cs t fr e
  subst e
  rw [hb]; intro h; cases h

theorem PInv.of {q : PP} {X : Nat → Prop} {W W' : World} {S : Nat → Prop} (h : PInv q X W) (g : Only S W W') (hn : NoCells S W) (hm : Memo W' q.m (fun s v => s.length = q.n ∧ RestV X W' v (bestV q.f q.to q.bu s))) : PInv q X W' :=
  ⟨g.cellN hn h.c0, g.cellN hn h.c1, g.cellN hn h.c2, g.cellN hn h.c3, g.cellN hn h.c4, h.fl.only g hn, h.ito.only g hn, hm⟩
theorem PInv.gr {q : PP} {X : Nat → Prop} {W W' : World} (h : PInv q X W) (g : Gr W W') : PInv q X W' :=
  ⟨(g.cell (lt_cell h.c0)).trans h.c0, (g.cell (lt_cell h.c1)).trans h.c1, (g.cell (lt_cell h.c2)).trans h.c2, (g.cell (lt_cell h.c3)).trans h.c3, (g.cell (lt_cell h.c4)).trans h.c4, h.fl.gr g, h.ito.gr g,
    h.memo.mono (g.below.block _ h.memo.lt) (fun s v hv => ⟨hv.1, hv.2.gr g⟩)⟩

theorem PInv.wide {q : PP} {X X' : Nat → Prop} {W : World} (h : PInv q X W) (hx : ∀ b, b < W.heap.size → X' b → X b) : PInv q X' W :=
  ⟨h.c0, h.c1, h.c2, h.c3, h.c4, h.fl, h.ito, h.memo.mono rfl (fun _ _ hv => ⟨hv.1, hv.2.wide hx⟩)⟩

theorem frozen_new {w : World} {cs : Array Value} {t : TypeId} {j : Nat} : (w.alloc (.cells cs t)).frozen? ⟨w.heap.size, j, none⟩ = false := by
  have := World.alloc_heap_new w (.cells cs t)
  unfold World.frozen?
  simp only [this]
  simp

/-- three new blocks of cells -/
structure Three (W w3 : World) (A B C : Array Value) : Prop where
  gr : Gr W w3
  sz : w3.heap.size = W.heap.size + 1 + 1 + 1
  a : ∀ j v, A[j]? = some v → w3.cell? ⟨W.heap.size, j, none⟩ = some v
  b : ∀ j v, B[j]? = some v → w3.cell? ⟨W.heap.size + 1, j, none⟩ = some v
  c : ∀ j v, C[j]? = some v → w3.cell? ⟨W.heap.size + 1 + 1, j, none⟩ = some v
  fc : ∀ j, w3.frozen? ⟨W.heap.size + 1 + 1, j, none⟩ = false
  fa : ∀ j, w3.frozen? ⟨W.heap.size, j, none⟩ = false
  fb : ∀ j, w3.frozen? ⟨W.heap.size + 1, j, none⟩ = false
theorem three (W : World) (A B C : Array Value) (t1 t2 t3 : TypeId) : Three W (((W.alloc (.cells A t1)).alloc (.cells B t2)).alloc (.cells C t3)) A B C := by
  have s1 : (W.alloc (.cells A t1)).heap.size = W.heap.size + 1 := by simp
  have s2 : ((W.alloc (.cells A t1)).alloc (.cells B t2)).heap.size = W.heap.size + 1 + 1 := by simp
  have g2 := (Gr.alloc (W.alloc (.cells A t1)) (.cells B t2)).allocR (.cells C t3)
  have g3 := Gr.alloc ((W.alloc (.cells A t1)).alloc (.cells B t2)) (.cells C t3)
  refine ⟨((Gr.alloc _ _).allocR _).allocR _, by simp, fun j v h => ?_, fun j v h => ?_, fun j v h => ?_, fun j => ?_, fun j => ?_, fun j => ?_⟩
  · exact (g2.cell (by simp)).trans (cell_new h)
  · rw [← s1]; exact (g3.cell (by simp)).trans (cell_new h)
  · rw [← s2]; exact cell_new h
  · rw [← s2]; exact frozen_new
  · exact (g2.frozen (by simp)).trans frozen_new
  · rw [← s1]; exact (g3.frozen (by simp)).trans frozen_new

def BPost (q : PP) (X : Nat → Prop) (W : World) (s : List Int) (e : Ending) (W' : World) : Prop := ∃ v, e = .returned v ∧ RestV X W' v (bestV q.f q.to q.bu s) ∧ PInv q X W' ∧ Only (fun b => b = q.m) W W'

/-- the boxes of a call of best -/
structure BLoc (q : PP) (W w : World) (a : Option Addr) (c : Nat) : Prop where
  gr : Gr W w
  b2 : w.cell? ⟨W.heap.size, 0, none⟩ = some (.pointer (some ⟨q.bp, 0, none⟩))
  b3 : w.cell? ⟨W.heap.size + 1, 0, none⟩ = some (.slice a q.n c)
  b40 : w.cell? ⟨W.heap.size + 1 + 1, 0, none⟩ = some (.int .i64 0)
  b41 : w.cell? ⟨W.heap.size + 1 + 1, 1, none⟩ = some (.int .i64 0)
  b42 : w.cell? ⟨W.heap.size + 1 + 1, 2, none⟩ = some (.slice none 0 0)
  b43 : w.cell? ⟨W.heap.size + 1 + 1, 3, none⟩ = some (.bool false)
  f40 : w.frozen? ⟨W.heap.size + 1 + 1, 0, none⟩ = false
  f41 : w.frozen? ⟨W.heap.size + 1 + 1, 1, none⟩ = false
  f42 : w.frozen? ⟨W.heap.size + 1 + 1, 2, none⟩ = false
  f43 : w.frozen? ⟨W.heap.size + 1 + 1, 3, none⟩ = false
  f2 : w.frozen? ⟨W.heap.size, 0, none⟩ = false
  f3 : w.frozen? ⟨W.heap.size + 1, 0, none⟩ = false
theorem BLoc.start (q : PP) (W : World) (a : Option Addr) (c : Nat) : BLoc q W (((W.alloc (.cells #[.pointer (some ⟨q.bp, 0, none⟩)] 74)).alloc (.cells #[.slice a q.n c] 26)).alloc (.cells #[.int .i64 0, .int .i64 0, .slice none 0 0, .bool false] 79)) a c := by
  have h3 := three W #[.pointer (some ⟨q.bp, 0, none⟩)] #[.slice a q.n c] #[.int .i64 0, .int .i64 0, .slice none 0 0, .bool false] 74 26 79
  exact ⟨h3.gr, h3.a 0 _ rfl, h3.b 0 _ rfl, h3.c 0 _ rfl, h3.c 1 _ rfl, h3.c 2 _ rfl, h3.c 3 _ rfl, h3.fc 0, h3.fc 1, h3.fc 2, h3.fc 3, h3.fa 0, h3.fb 0⟩
theorem BLoc.then {q : PP} {W w w' : World} {a : Option Addr} {c : Nat} (h : BLoc q W w a c) (g : Gr w w') : BLoc q W w' a c :=
  ⟨h.gr.trans g, (g.cell (lt_cell h.b2)).trans h.b2, (g.cell (lt_cell h.b3)).trans h.b3, (g.cell (lt_cell h.b40)).trans h.b40, (g.cell (lt_cell h.b41)).trans h.b41, (g.cell (lt_cell h.b42)).trans h.b42, (g.cell (lt_cell h.b43)).trans h.b43,
    (g.frozen (lt_cell h.b40)).trans h.f40, (g.frozen (lt_cell h.b41)).trans h.f41, (g.frozen (lt_cell h.b42)).trans h.f42, (g.frozen (lt_cell h.b43)).trans h.f43, (g.frozen (lt_cell h.b2)).trans h.f2, (g.frozen (lt_cell h.b3)).trans h.f3⟩

/-- what is stored into the result -/
theorem BLoc.store {q : PP} {W w : World} {a : Option Addr} {c : Nat} (h : BLoc q W w a c) (v0 v1 v2 v3 : Value) :
    Gr W ((((w.setCell ⟨W.heap.size + 1 + 1, 0, none⟩ v0).setCell ⟨W.heap.size + 1 + 1, 1, none⟩ v1).setCell ⟨W.heap.size + 1 + 1, 2, none⟩ v2).setCell ⟨W.heap.size + 1 + 1, 3, none⟩ v3) :=
  (((h.gr.setCell (by simp only; omega) v0).setCell (by simp only; omega) v1).setCell (by simp only; omega) v2).setCell (by simp only; omega) v3

theorem drewN_some (w : World) (n : Nat) : ∃ w4, w.drewN n = w4 ∧ Gr w w4 := ⟨_, rfl, Gr.drewN _ _⟩

set_option maxRecDepth 100000 in
set_option maxHeartbeats 1000000 in
theorem best_end (q : PP) (H : PHyp q) (X : Nat → Prop) (s : List Int) (W : World) (a : Option Addr) (c : Nat) (hI : PInv q X W) (hs : Ints W a q.n s) (he : s = q.to) :
    Calls Try.prog 49 #[.pointer (some ⟨q.bp, 0, none⟩), .slice a q.n c] W (BPost q X W s) := by
  have hv : Hid (bestV q.f q.to q.bu s = Rs.fin) := Lib.hid (by rw [bestV_eq (by rw [he]), if_pos he])
  have hde : Hid (decide (s = q.to) = true) := Lib.hid (by simpa using he)
  clear he
  have hL := BLoc.start q W a c
  obtain ⟨w3, hw3⟩ : ∃ w3, ((W.alloc (.cells #[.pointer (some ⟨q.bp, 0, none⟩)] 74)).alloc (.cells #[.slice a q.n c] 26)).alloc (.cells #[.int .i64 0, .int .i64 0, .slice none 0 0, .bool false] 79) = w3 := ⟨_, rfl⟩
  rw [hw3] at hL
  have hI3 := hI.gr hL.gr
  have hs3 := hs.gr hL.gr
  have hc2 := hI3.c2
  have b2 := hL.b2
  have b3 := hL.b3
  have heq : ∀ k, Hid (Calls Try.prog 50 #[.slice a q.n c, .slice q.toa q.n q.toc] (w3.drewN k) fun e w' => e = .returned (.bool true) ∧ ∃ m, w' = (w3.drewN k).drewN m) := fun k => Lib.hid (by
    have := equal_any a q.toa q.n c q.n q.toc s q.to (w3.drewN k) (hs3.gr (Gr.drewN _ _)) (hI3.ito.gr (Gr.drewN _ _))
    rw [hde.out] at this
    exact this)
  have HEQ := Lib.hid heq
  clear heq
  go_enter Try.func49, Try.ntmps49
  go_wp2_with fail
  clear hw3
  go_quiet ((go_at_call 50; exact Calls.quiet_of (HEQ.out _).out))
  obtain ⟨w4, hw4, g4⟩ := drewN_some w3 nq
  rw [hw4]
  clear hw4
  have hL4 := hL.then g4
  have b40 := hL4.b40
  have b41 := hL4.b41
  have b42 := hL4.b42
  have b43 := hL4.b43
  have f40 := hL4.f40
  have f41 := hL4.f41
  have f42 := hL4.f42
  have f43 := hL4.f43
  go_wp2_with fail
  have G := hL4.store
  exact bodyPost_ret (v := .agg #[.int .i64 0, .int .i64 0, .slice none 0 0, .bool true]) (by simp [results, Try.results49, go_sem, b40, b41, b42, b43]) rfl
    ⟨_, rfl, ⟨none, 0, 0, by rw [hv.out]; rfl, by rw [hv.out]; exact Ints.nil _, (fun ad h => by cases h)⟩, hI.gr (G _ _ _ _), (G _ _ _ _).only _⟩

set_option maxRecDepth 100000 in
set_option maxHeartbeats 1000000 in
theorem best_not (q : PP) (H : PHyp q) (X : Nat → Prop) (s : List Int) (W : World) (a : Option Addr) (c : Nat) (hI : PInv q X W) (hs : Ints W a q.n s) (he : ¬ s = q.to) (hna : aboveV q.to s = false) :
    Calls Try.prog 49 #[.pointer (some ⟨q.bp, 0, none⟩), .slice a q.n c] W (BPost q X W s) := by
  have hv : Hid (bestV q.f q.to q.bu s = Rs.no) := Lib.hid (by rw [bestV_eq (by rw [hs.len, hI.ito.len]), if_neg he, hna]; simp)
  have hde : Hid (decide (s = q.to) = false) := Lib.hid (by simpa using he)
  have hda := Lib.hid hna
  clear he hna
  have hL := BLoc.start q W a c
  obtain ⟨w3, hw3⟩ : ∃ w3, ((W.alloc (.cells #[.pointer (some ⟨q.bp, 0, none⟩)] 74)).alloc (.cells #[.slice a q.n c] 26)).alloc (.cells #[.int .i64 0, .int .i64 0, .slice none 0 0, .bool false] 79) = w3 := ⟨_, rfl⟩
  rw [hw3] at hL
  have hI3 := hI.gr hL.gr
  have hs3 := hs.gr hL.gr
  have hc2 := hI3.c2
  have b2 := hL.b2
  have b3 := hL.b3
  have heq : ∀ k, Hid (Calls Try.prog 50 #[.slice a q.n c, .slice q.toa q.n q.toc] (w3.drewN k) fun e w' => e = .returned (.bool false) ∧ ∃ m, w' = (w3.drewN k).drewN m) := fun k => Lib.hid (by
    have := equal_any a q.toa q.n c q.n q.toc s q.to (w3.drewN k) (hs3.gr (Gr.drewN _ _)) (hI3.ito.gr (Gr.drewN _ _))
    rw [hde.out] at this
    exact this)
  have HEQ := Lib.hid heq
  clear heq
  go_enter Try.func49, Try.ntmps49
  go_wp2_with fail
  clear hw3
  go_quiet ((go_at_call 50; exact Calls.quiet_of (HEQ.out _).out))
  obtain ⟨w4, hw4, g4⟩ := drewN_some w3 nq
  rw [hw4]
  clear hw4 b2 b3 hc2
  have hL4 := hL.then g4
  have hI4 := hI3.gr g4
  have hs4 := hs3.gr g4
  have hc2 := hI4.c2
  have b2 := hL4.b2
  have b3 := hL4.b3
  have hab : ∀ k, Hid (Calls Try.prog 55 #[.slice q.toa q.n q.toc, .slice a q.n c] (w4.drewN k) fun e w' => e = .returned (.bool false) ∧ ∃ m, w' = (w4.drewN k).drewN m) := fun k => Lib.hid (by
    have := above_any q.toa a q.n q.toc q.n c q.to s (w4.drewN k) (hI4.ito.gr (Gr.drewN _ _)) (hs4.gr (Gr.drewN _ _)) (Nat.le_refl _)
    rw [hda.out] at this
    exact this)
  have HAB := Lib.hid hab
  clear hab
  go_wp2_with fail
  go_quiet ((go_at_call 55; exact Calls.quiet_of (HAB.out _).out))
  obtain ⟨w5, hw5, g5⟩ := drewN_some w4 nq
  rw [hw5]
  clear hw5 b2 b3 hc2
  have hL5 := hL4.then g5
  have b40 := hL5.b40
  have b41 := hL5.b41
  have b42 := hL5.b42
  have b43 := hL5.b43
  have f40 := hL5.f40
  have f41 := hL5.f41
  have f42 := hL5.f42
  have f43 := hL5.f43
  go_wp2_with fail
  have G := hL5.store
  exact bodyPost_ret (v := .agg #[.int .i64 0, .int .i64 0, .slice none 0 0, .bool false]) (by simp [results, Try.results49, go_sem, b40, b41, b42, b43]) rfl
    ⟨_, rfl, ⟨none, 0, 0, by rw [hv.out]; rfl, by rw [hv.out]; exact Ints.nil _, (fun ad h => by cases h)⟩, hI.gr (G _ _ _ _), (G _ _ _ _).only _⟩
end
section
open Go.RowKit

/-- region 6 of best: a new block for what the memo holds -/
structure R6 (w6 : World) (v0 v1 v2 v3 : Value) (done : Nat → Bool) (W : World) : Prop where
  gr : Gr w6 W
  sz : done 9 = false → W.heap.size = w6.heap.size
  fz : done 9 = true → ∀ j, W.frozen? ⟨w6.heap.size, j, none⟩ = false
  ce : done 9 = true → done 10 = false → W.cell? ⟨w6.heap.size, 0, none⟩ = some (.int .i64 0) ∧ W.cell? ⟨w6.heap.size, 1, none⟩ = some (.int .i64 0) ∧ W.cell? ⟨w6.heap.size, 2, none⟩ = some (.slice none 0 0) ∧ W.cell? ⟨w6.heap.size, 3, none⟩ = some (.bool false)
  st : done 10 = true → W.cell? ⟨w6.heap.size, 0, none⟩ = some v0 ∧ W.cell? ⟨w6.heap.size, 1, none⟩ = some v1 ∧ W.cell? ⟨w6.heap.size, 2, none⟩ = some v2 ∧ W.cell? ⟨w6.heap.size, 3, none⟩ = some v3

theorem R6.start (w6 : World) (v0 v1 v2 v3 : Value) : R6 w6 v0 v1 v2 v3 (fun _ => false) w6.drew := ⟨Gr.drew _, fun _ => rfl, (fun h => by cases h), (fun h => by cases h), (fun h => by cases h)⟩
theorem R6.quiet {w6 W : World} {v0 v1 v2 v3 : Value} {done : Nat → Bool} (h : R6 w6 v0 v1 v2 v3 done W) {i : Nat} (h9 : 9 ≠ i) (h10 : 10 ≠ i) : R6 w6 v0 v1 v2 v3 (upd done i) W := by
  refine ⟨h.gr, ?_, ?_, ?_, ?_⟩ <;> simp only [upd_ne h9, upd_ne h10]
  · exact h.sz
  · exact h.fz
  · exact h.ce
  · exact h.st
theorem R6.alloc {w6 W : World} {v0 v1 v2 v3 : Value} {done : Nat → Bool} (h : R6 w6 v0 v1 v2 v3 done W) (hsz : W.heap.size = w6.heap.size) (h10 : done 10 = false) :
    R6 w6 v0 v1 v2 v3 (upd done 9) (W.alloc (.cells #[.int .i64 0, .int .i64 0, .slice none 0 0, .bool false] 79)) := by
  refine ⟨h.gr.allocR _, (fun h => by rw [upd_self] at h; cases h), fun _ j => by rw [← hsz]; exact frozen_new, fun _ _ => ?_, (fun h => by rw [upd_ne (by decide), h10] at h; cases h)⟩
  rw [← hsz]
  exact ⟨cell_new rfl, cell_new rfl, cell_new rfl, cell_new rfl⟩
theorem setCell4 {w : World} {b : Nat} {x0 x1 x2 x3 : Value} (h0 : w.cell? ⟨b, 0, none⟩ = some x0) (h1 : w.cell? ⟨b, 1, none⟩ = some x1) (h2 : w.cell? ⟨b, 2, none⟩ = some x2) (h3 : w.cell? ⟨b, 3, none⟩ = some x3) (v0 v1 v2 v3 : Value) (W' : World)
    (hW : W' = (((w.setCell ⟨b, 0, none⟩ v0).setCell ⟨b, 1, none⟩ v1).setCell ⟨b, 2, none⟩ v2).setCell ⟨b, 3, none⟩ v3) :
    W'.cell? ⟨b, 0, none⟩ = some v0 ∧ W'.cell? ⟨b, 1, none⟩ = some v1 ∧ W'.cell? ⟨b, 2, none⟩ = some v2 ∧ W'.cell? ⟨b, 3, none⟩ = some v3 ∧ (∀ j, W'.frozen? ⟨b, j, none⟩ = w.frozen? ⟨b, j, none⟩) ∧ W'.heap.size = w.heap.size ∧ (∀ a, a ≠ b → W'.heap[a]? = w.heap[a]?) := by
  subst hW
  refine ⟨?_, ?_, ?_, ?_, ?_, ?_, ?_⟩
  · simp [go_sem, h0]
  · simp [go_sem, h1]
  · simp [go_sem, h2]
  · simp [go_sem, h3]
  · intro j; simp
  · simp
  · intro a ha
    rw [Below.heap_setCell _ _ _ _ ha, Below.heap_setCell _ _ _ _ ha, Below.heap_setCell _ _ _ _ ha, Below.heap_setCell _ _ _ _ ha]
theorem R6.stored {w6 W : World} {v0 v1 v2 v3 : Value} {done : Nat → Bool} (h : R6 w6 v0 v1 v2 v3 done W) (h9 : done 9 = true) (h10 : done 10 = false) :
    R6 w6 v0 v1 v2 v3 (upd done 10) ((((W.setCell ⟨w6.heap.size, 0, none⟩ v0).setCell ⟨w6.heap.size, 1, none⟩ v1).setCell ⟨w6.heap.size, 2, none⟩ v2).setCell ⟨w6.heap.size, 3, none⟩ v3) := by
  obtain ⟨z0, z1, z2, z3⟩ := h.ce h9 h10
  obtain ⟨s0, s1, s2, s3, s4, s5, s6⟩ := setCell4 z0 z1 z2 z3 v0 v1 v2 v3 _ rfl
  refine ⟨(((h.gr.setCell (Nat.le_refl _) _).setCell (Nat.le_refl _) _).setCell (Nat.le_refl _) _).setCell (Nat.le_refl _) _, (fun h => by rw [upd_ne (by decide), h9] at h; cases h), fun _ j => by rw [s4]; exact h.fz h9 j, (fun _ h => by rw [upd_self] at h; cases h), fun _ => ⟨s0, s1, s2, s3⟩⟩

theorem StOk.small {f : Fl} {s : List Int} (hok : FlOk f) (h : StOk f s) : Small s := fun c => by
  by_cases hc : c < f.times.length
  · have h1 := h.ver c hc
    have h2 := hok.row c hc
    omega
  · rw [List.getElem?_eq_none (by rw [h.len]; omega)]; simp

/-- the boxes of best behind its key -/
structure BKey (q : PP) (X : Nat → Prop) (W w : World) (a : Option Addr) (c : Nat) (kb : Nat) (s : List Int) : Prop where
  loc : BLoc q W w a c
  inv : PInv q X w
  is : Ints w a q.n s
  kge : W.heap.size + 1 + 1 < kb
  k0 : w.cell? ⟨kb, 0, none⟩ = some (.int .i64 (s[0]?.getD 0))
  k1 : w.cell? ⟨kb, 1, none⟩ = some (.int .i64 (s[1]?.getD 0))
  k2 : w.cell? ⟨kb, 2, none⟩ = some (.int .i64 (s[2]?.getD 0))
  k3 : w.cell? ⟨kb, 3, none⟩ = some (.int .i64 (s[3]?.getD 0))
  k4 : w.cell? ⟨kb, 4, none⟩ = some (.int .i64 (s[4]?.getD 0))
  k5 : w.cell? ⟨kb, 5, none⟩ = some (.int .i64 (s[5]?.getD 0))
  kf : ∀ j, w.frozen? ⟨kb, j, none⟩ = false

theorem BKey.then {q : PP} {X : Nat → Prop} {W w w' : World} {a : Option Addr} {c kb : Nat} {s : List Int} (h : BKey q X W w a c kb s) (g : Gr w w') : BKey q X W w' a c kb s :=
  ⟨h.loc.then g, h.inv.gr g, h.is.gr g, h.kge, (g.cell (lt_cell h.k0)).trans h.k0, (g.cell (lt_cell h.k1)).trans h.k1, (g.cell (lt_cell h.k2)).trans h.k2, (g.cell (lt_cell h.k3)).trans h.k3, (g.cell (lt_cell h.k4)).trans h.k4, (g.cell (lt_cell h.k5)).trans h.k5, fun j => (g.frozen (p := ⟨kb, j, none⟩) (show kb < w.heap.size from lt_cell (p := ⟨kb, 0, none⟩) h.k0)).trans (h.kf j)⟩

theorem BKey.of {q : PP} {X : Nat → Prop} {W w : World} {a : Option Addr} {c : Nat} {s : List Int} (hL : BLoc q W w a c) (hI : PInv q X w) (hs : Ints w a q.n s) :
    BKey q X W (w.alloc (.cells #[.int .i64 (s[0]?.getD 0), .int .i64 (s[1]?.getD 0), .int .i64 (s[2]?.getD 0), .int .i64 (s[3]?.getD 0), .int .i64 (s[4]?.getD 0), .int .i64 (s[5]?.getD 0)] 89)) a c w.heap.size s :=
  ⟨hL.then (Gr.alloc _ _), hI.gr (Gr.alloc _ _), hs.gr (Gr.alloc _ _), lt_cell hL.b40, cell_new rfl, cell_new rfl, cell_new rfl, cell_new rfl, cell_new rfl, cell_new rfl, fun _ => frozen_new⟩

theorem Try.zero79 (w : World) : (zeroValue 79).run Try.prog w = .ok (.agg #[.int .i64 0, .int .i64 0, .slice none 0 0, .bool false]) w := by kernel_rfl

/-- what a lookup in the memo gives -/
theorem best_lookup {q : PP} (H : PHyp q) {X : Nat → Prop} {s : List Int} {w : World} (hI : PInv q X w) (hst : StOk q.f s) (hl : s.length = q.n) :
    ∃ (st ti : Int) (xa : Option Addr) (xk xc : Nat) (xb b : Bool), (∀ W : World, W.heap[q.m]? = w.heap[q.m]? → (Instr.lookup 75 (.map (some q.m)) (.agg #[.int .i64 (s[0]?.getD 0), .int .i64 (s[1]?.getD 0), .int .i64 (s[2]?.getD 0), .int .i64 (s[3]?.getD 0), .int .i64 (s[4]?.getD 0), .int .i64 (s[5]?.getD 0)]) true).run Try.prog W = .ok (.tuple #[.agg #[.int .i64 st, .int .i64 ti, .slice xa xk xc, .bool xb], .bool b]) W) ∧
      (b = true → RestV X w (.agg #[.int .i64 st, .int .i64 ti, .slice xa xk xc, .bool xb]) (bestV q.f q.to q.bu s)) := by
  obtain ⟨es, clk, hb, hall, hpw⟩ := hI.memo
  have hsm := hst.small H.ok
  obtain ⟨l, hlk⟩ := keyOf_keyV hsm
  have K := Try.akey.law
  have hkeys : ∀ e ∈ es.toList, ∃ l, keyOf Try.prog 89 e.key = some l := fun e he => by obtain ⟨s', h1, h2, _⟩ := hall e he; rw [h1]; exact keyOf_keyV h2
  rcases K.find w hlk es.toList hkeys with ⟨h1, h2⟩ | ⟨j, e0, h1, h2, h3⟩
  · refine ⟨0, 0, none, 0, 0, false, false, fun W hW => ?_, fun h => by cases h⟩
    rcases K.find W hlk es.toList hkeys with ⟨h1', h2'⟩ | ⟨j', e0', h1', h2', h3'⟩
    · have hbW := hW.trans hb
      show (Instr.lookup 75 (.map (some q.m)) (keyV s) true).run Try.prog W = _
      simp [Instr.lookup, run_underlying Try.underlying75, MapKept.run_getObj_map hbW, K.check W _ hlk, h1']
    · exact absurd h3' (h2 e0' (List.mem_of_getElem? h2'))
  · have hm0 : e0 ∈ es.toList := List.mem_of_getElem? h2
    obtain ⟨s', k1, k2, k3, k4⟩ := hall e0 hm0
    have hss : s' = s := keyV_inj (by rw [k3, hl]) (by rw [k3, H.nt]; exact H.ok.n6) (by rw [← k1, h3])
    subst hss
    obtain ⟨a, k, c, hv, hi, h3t⟩ := k4
    refine ⟨_, _, _, _, _, _, true, fun W hW => ?_, fun _ => ⟨a, k, c, rfl, hi, h3t⟩⟩
    rcases K.find W hlk es.toList hkeys with ⟨h1', h2'⟩ | ⟨j', e0', h1', h2', h3'⟩
    · exact absurd h3 (h2' e0 hm0)
    · have hm0' : e0' ∈ es.toList := List.mem_of_getElem? h2'
      have hbW := hW.trans hb
      show (Instr.lookup 75 (.map (some q.m)) (keyV s') true).run Try.prog W = _
      simp [Instr.lookup, run_underlying Try.underlying75, MapKept.run_getObj_map hbW, K.check W _ hlk, h1', Result.andThen]
      rw [pairwise_same hpw hm0' hm0 (by rw [h3', h3]), hv]
end
section
open Go.RowKit

/-- X, and the blocks from lo to hi -/
def XL (X : Nat → Prop) (lo hi : Nat) : Nat → Prop := fun b => X b ∨ (lo ≤ b ∧ b ≤ hi)

def bestL (q : PP) (W : World) (a : Option Addr) (c kb : Nat) (s : List Int) : List (Addr × Value) :=
  [(⟨W.heap.size, 0, none⟩, .pointer (some ⟨q.bp, 0, none⟩)), (⟨W.heap.size + 1, 0, none⟩, .slice a q.n c),
    (⟨W.heap.size + 1 + 1, 0, none⟩, .int .i64 0), (⟨W.heap.size + 1 + 1, 1, none⟩, .int .i64 0), (⟨W.heap.size + 1 + 1, 2, none⟩, .slice none 0 0), (⟨W.heap.size + 1 + 1, 3, none⟩, .bool false),
    (⟨kb, 0, none⟩, .int .i64 (s[0]?.getD 0)), (⟨kb, 1, none⟩, .int .i64 (s[1]?.getD 0)), (⟨kb, 2, none⟩, .int .i64 (s[2]?.getD 0)), (⟨kb, 3, none⟩, .int .i64 (s[3]?.getD 0)), (⟨kb, 4, none⟩, .int .i64 (s[4]?.getD 0)), (⟨kb, 5, none⟩, .int .i64 (s[5]?.getD 0))]
def restL (b : Nat) (r : Rs) (a : Option Addr) (k c : Nat) : List (Addr × Value) :=
  [(⟨b, 0, none⟩, .int .i64 r.steps), (⟨b, 1, none⟩, .int .i64 r.time), (⟨b, 2, none⟩, .slice a k c), (⟨b, 3, none⟩, .bool r.is)]

def foldV (q : PP) (s : List Int) (done : List (List Int)) : Rs := done.foldl (bestStep q.f.times q.bu s (bestV q.f q.to q.bu)) Rs.no

structure BI (q : PP) (X : Nat → Prop) (W : World) (s : List Int) (a : Option Addr) (c kb b8 D : Nat) (done : List (List Int)) (w : World) : Prop where
  on : Only (fun b => b = q.m ∨ W.heap.size ≤ b) W w
  loc : LCells w (bestL q W a c kb s)
  memo : Memo w q.m (fun s v => s.length = q.n ∧ RestV (XL X W.heap.size (D + 4)) w v (bestV q.f q.to q.bu s))
  best : ∃ a' k' c', LCells w (restL b8 (foldV q s done) a' k' c') ∧ Ints w a' k' (foldV q s done).nxt ∧ ∀ ad, a' = some ad → D + 4 < ad.block ∧ Is3 w ad.block

theorem PInv.nocS {q : PP} {X : Nat → Prop} {W : World} (h : PInv q X W) : NoCells (fun b => b = q.m ∨ W.heap.size ≤ b) W := by
  intro b cs t fr hs hb
  rcases hs with hs | hs
  · exact h.noc b cs t fr hs hb
  · have := (Array.getElem?_eq_some_iff.1 hb).1; omega

theorem BI.inv {q : PP} {X : Nat → Prop} {W w : World} {s : List Int} {a : Option Addr} {c kb b8 D : Nat} {done : List (List Int)} (h : BI q X W s a c kb b8 D done w) (hI : PInv q X W) : PInv q (XL X W.heap.size (D + 4)) w :=
  ⟨h.on.cellN hI.nocS hI.c0, h.on.cellN hI.nocS hI.c1, h.on.cellN hI.nocS hI.c2, h.on.cellN hI.nocS hI.c3, h.on.cellN hI.nocS hI.c4, hI.fl.only h.on hI.nocS, hI.ito.only h.on hI.nocS, h.memo⟩

theorem bestL_blocks {q : PP} {W : World} {a : Option Addr} {c kb : Nat} {s : List Int} : ∀ p ∈ bestL q W a c kb s, p.1.block = W.heap.size ∨ p.1.block = W.heap.size + 1 ∨ p.1.block = W.heap.size + 1 + 1 ∨ p.1.block = kb := by
  intro p hp
  simp only [bestL, List.mem_cons, List.not_mem_nil, or_false] at hp
  rcases hp with rfl | rfl | rfl | rfl | rfl | rfl | rfl | rfl | rfl | rfl | rfl | rfl <;> simp
theorem restL_blocks {b : Nat} {r : Rs} {a : Option Addr} {k c : Nat} : ∀ p ∈ restL b r a k c, p.1.block = b := by
  intro p hp
  simp only [restL, List.mem_cons, List.not_mem_nil, or_false] at hp
  rcases hp with rfl | rfl | rfl | rfl <;> rfl

theorem BKey.cells {q : PP} {X : Nat → Prop} {W w : World} {a : Option Addr} {c kb : Nat} {s : List Int} (h : BKey q X W w a c kb s) : LCells w (bestL q W a c kb s) := by
  intro p hp
  simp only [bestL, List.mem_cons, List.not_mem_nil, or_false] at hp
  rcases hp with rfl | rfl | rfl | rfl | rfl | rfl | rfl | rfl | rfl | rfl | rfl | rfl
  · exact ⟨h.loc.b2, h.loc.f2⟩
  · exact ⟨h.loc.b3, h.loc.f3⟩
  · exact ⟨h.loc.b40, h.loc.f40⟩
  · exact ⟨h.loc.b41, h.loc.f41⟩
  · exact ⟨h.loc.b42, h.loc.f42⟩
  · exact ⟨h.loc.b43, h.loc.f43⟩
  · exact ⟨h.k0, h.kf 0⟩
  · exact ⟨h.k1, h.kf 1⟩
  · exact ⟨h.k2, h.kf 2⟩
  · exact ⟨h.k3, h.kf 3⟩
  · exact ⟨h.k4, h.kf 4⟩
  · exact ⟨h.k5, h.kf 5⟩

/-- how the numbers of the blocks lie -/
structure BNum (q : PP) (W : World) (kb b8 D : Nat) : Prop where
  i1 : q.m < W.heap.size
  i2 : W.heap.size + 1 + 1 < kb
  i3 : kb < b8
  i4 : b8 < D

/-- the loop's own block, the iterator's buffer, and new blocks may turn -/
theorem BI.keep {q : PP} {X : Nat → Prop} {W w w' : World} {s : List Int} {a : Option Addr} {c kb b8 D : Nat} {done : List (List Int)} (h : BI q X W s a c kb b8 D done w) (hn : BNum q W kb b8 D) (g : Only (fun b => b = D + 1 ∨ b = D + 4) w w') : BI q X W s a c kb b8 D done w' := by
  have h1 := hn.i1
  have h2 := hn.i2
  have h3 := hn.i3
  have h4 := hn.i4
  refine ⟨h.on.trans (g.mono' (fun i e => .inr (by omega))), h.loc.only g (fun p hp => by have := bestL_blocks p hp; omega), ?_, ?_⟩
  · refine h.memo.mono (g.block _ h.memo.lt (by omega)) (fun s v hv => ⟨hv.1, hv.2.onlyX g (fun b e => .inr (by omega))⟩)
  · obtain ⟨a', k', c', hl, hi, had⟩ := h.best
    refine ⟨a', k', c', hl.only g (fun p hp => by have := restL_blocks p hp; omega), hi.onlyAt g (fun ad e => by have := (had ad e).1; omega), fun ad e => ?_⟩
    have := (had ad e).1
    exact ⟨this, (had ad e).2.only g (by omega)⟩
theorem BI.gr {q : PP} {X : Nat → Prop} {W w w' : World} {s : List Int} {a : Option Addr} {c kb b8 D : Nat} {done : List (List Int)} (h : BI q X W s a c kb b8 D done w) (hn : BNum q W kb b8 D) (g : Gr w w') : BI q X W s a c kb b8 D done w' := h.keep hn (g.only _)

/-- a call of best in a round -/
theorem BI.call {q : PP} {X : Nat → Prop} {W w w' : World} {s : List Int} {a : Option Addr} {c kb b8 D : Nat} {done : List (List Int)} (h : BI q X W s a c kb b8 D done w) (hI : PInv q X W) (g : Only (fun b => b = q.m) w w') (hI' : PInv q (XL X W.heap.size (D + 4)) w') : BI q X W s a c kb b8 D done w' := by
  have hn := (h.inv hI).noc
  refine ⟨h.on.trans (g.mono' (fun i e => .inl e)), h.loc.onlyN g hn, hI'.memo, ?_⟩
  obtain ⟨a', k', c', hl, hi, had⟩ := h.best
  exact ⟨a', k', c', hl.onlyN g hn, hi.only g hn, fun ad e => ⟨(had ad e).1, (had ad e).2.onlyN g hn⟩⟩

/-- best has turned -/
theorem BI.set {q : PP} {X : Nat → Prop} {W w w' : World} {s x : List Int} {a : Option Addr} {c kb b8 D : Nat} {done : List (List Int)} (h : BI q X W s a c kb b8 D done w) (hn : BNum q W kb b8 D) (g : Only (fun b => b = b8) w w')
    {a' : Option Addr} {k' c' : Nat} (hl : LCells w' (restL b8 (foldV q s (done ++ [x])) a' k' c')) (hi : Ints w' a' k' (foldV q s (done ++ [x])).nxt) (had : ∀ ad, a' = some ad → D + 4 < ad.block ∧ Is3 w' ad.block) : BI q X W s a c kb b8 D (done ++ [x]) w' := by
  have h1 := hn.i1
  have h2 := hn.i2
  have h3 := hn.i3
  have h4 := hn.i4
  exact ⟨h.on.trans (g.mono' (fun i e => .inr (by omega))), h.loc.only g (fun p hp => by have := bestL_blocks p hp; omega), h.memo.mono (g.block _ h.memo.lt (by omega)) (fun s v hv => ⟨hv.1, hv.2.onlyX g (fun b e => .inr (by omega))⟩), a', k', c', hl, hi, had⟩
theorem BI.same {q : PP} {X : Nat → Prop} {W w : World} {s x : List Int} {a : Option Addr} {c kb b8 D : Nat} {done : List (List Int)} (h : BI q X W s a c kb b8 D done w) (he : foldV q s (done ++ [x]) = foldV q s done) : BI q X W s a c kb b8 D (done ++ [x]) w := by
  refine ⟨h.on, h.loc, h.memo, ?_⟩
  rw [he]
  exact h.best
theorem BI.start {q : PP} {X : Nat → Prop} {W w : World} {s : List Int} {a : Option Addr} {c kb b8 D : Nat} (hI : PInv q X W) (hK : BKey q X W w a c kb s) (hl : LCells w (restL b8 Rs.no none 0 0)) : BI q X W s a c kb b8 D [] w := by
  refine ⟨hK.loc.gr.only _, hK.cells, ?_, none, 0, 0, hl, Ints.nil _, fun ad e => by cases e⟩
  have h1 := (hI.wide (X' := XL X W.heap.size (D + 4)) (fun b hb hx => by
    rcases hx with hx | hx
    · exact hx
    · omega)).gr hK.loc.gr
  exact h1.memo
/-- what the iterator reads -/
theorem PInv.base {q : PP} {X : Nat → Prop} {W : World} {a : Option Addr} {s : List Int} (H : PHyp q) (h : PInv q X W) (hs : Ints W a q.n s) (hst : StOk q.f s) : SBase W (fun b => b = q.m ∨ W.heap.size ≤ b) q.f q.ta q.tn q.ca q.cn a q.toa q.n s q.to :=
  ⟨H.ok, h.fl, hs, h.ito, fun W' g => ⟨h.fl.only g h.nocS, hs.only g h.nocS, h.ito.only g h.nocS⟩, fun b hb => .inr hb, by have := H.ok.n1; have := H.nt; omega, H.nt, fun c hc => (hst.ver c (by rw [← H.nt]; exact hc)).1, fun c hc => (H.sto.ver c (by rw [← H.nt]; exact hc)).2⟩
end
section
open Go.RowKit
attribute [local go_sem] Oper.semAt_some

/-- the body of the first range over a function -/
def firstBody : Code → Option Code
  | .rangeFunc _ _ _ b => some b
  | .seq a b => match firstBody a with | some c => some c | none => firstBody b
  | .cond _ a b => match firstBody a with | some c => some c | none => firstBody b
  | .block _ a => firstBody a
  | .loop a => firstBody a
  | .scope a => firstBody a
  | _ => none

def xcells (b : Nat) (v0 v1 v2 v3 : Value) : List (Addr × Value) := [(⟨b, 0, none⟩, v0), (⟨b, 1, none⟩, v1), (⟨b, 2, none⟩, v2), (⟨b, 3, none⟩, v3)]
theorem xcells_of {w : World} {b : Nat} {v0 v1 v2 v3 : Value} (h0 : w.cell? ⟨b, 0, none⟩ = some v0) (h1 : w.cell? ⟨b, 1, none⟩ = some v1) (h2 : w.cell? ⟨b, 2, none⟩ = some v2) (h3 : w.cell? ⟨b, 3, none⟩ = some v3) (hf : ∀ j, w.frozen? ⟨b, j, none⟩ = false) : LCells w (xcells b v0 v1 v2 v3) := by
  intro p hp
  simp only [xcells, List.mem_cons, List.not_mem_nil, or_false] at hp
  rcases hp with rfl | rfl | rfl | rfl
  · exact ⟨h0, hf 0⟩
  · exact ⟨h1, hf 1⟩
  · exact ⟨h2, hf 2⟩
  · exact ⟨h3, hf 3⟩
theorem xcells_new (w : World) (v0 v1 v2 v3 : Value) : LCells (w.alloc (.cells #[v0, v1, v2, v3] 79)) (xcells w.heap.size v0 v1 v2 v3) :=
  xcells_of (cell_new rfl) (cell_new rfl) (cell_new rfl) (cell_new rfl) (fun _ => frozen_new)
theorem xcells_set1 {w : World} {b : Nat} {v0 v1 v2 v3 : Value} (h : LCells w (xcells b v0 v1 v2 v3)) (v : Value) : LCells (w.setCell ⟨b, 1, none⟩ v) (xcells b v0 v v2 v3) := by
  have h0 := h.at 0 rfl
  have h1 := h.at 1 rfl
  have h2 := h.at 2 rfl
  have h3 := h.at 3 rfl
  have f0 := h.fr 0 rfl
  have f1 := h.fr 1 rfl
  have f2 := h.fr 2 rfl
  have f3 := h.fr 3 rfl
  intro p hp
  simp only [xcells, List.mem_cons, List.not_mem_nil, or_false] at hp
  simp only at h0 h1 h2 h3 f0 f1 f2 f3
  rcases hp with rfl | rfl | rfl | rfl
  · exact ⟨by simp [go_sem, h0], by simpa using f0⟩
  · exact ⟨by simp [go_sem, h1], by simpa using f1⟩
  · exact ⟨by simp [go_sem, h2], by simpa using f2⟩
  · exact ⟨by simp [go_sem, h3], by simpa using f3⟩
theorem xcells_set2 {w : World} {b : Nat} {v0 v1 v2 v3 : Value} (h : LCells w (xcells b v0 v1 v2 v3)) (v : Value) : LCells (w.setCell ⟨b, 2, none⟩ v) (xcells b v0 v1 v v3) := by
  have h0 := h.at 0 rfl
  have h1 := h.at 1 rfl
  have h2 := h.at 2 rfl
  have h3 := h.at 3 rfl
  have f0 := h.fr 0 rfl
  have f1 := h.fr 1 rfl
  have f2 := h.fr 2 rfl
  have f3 := h.fr 3 rfl
  intro p hp
  simp only [xcells, List.mem_cons, List.not_mem_nil, or_false] at hp
  simp only at h0 h1 h2 h3 f0 f1 f2 f3
  rcases hp with rfl | rfl | rfl | rfl
  · exact ⟨by simp [go_sem, h0], by simpa using f0⟩
  · exact ⟨by simp [go_sem, h1], by simpa using f1⟩
  · exact ⟨by simp [go_sem, h2], by simpa using f2⟩
  · exact ⟨by simp [go_sem, h3], by simpa using f3⟩

structure R16 (w2 : World) (bx : Nat) (p0 p1 p2 p3 s0 s1 s2 s3 : Value) (done : Nat → Bool) (W : World) : Prop where
  gr : Gr w2 W
  pre : done 11 = false → LCells W (xcells bx p0 p1 p2 p3)
  post : done 11 = true → LCells W (xcells bx s0 s1 s2 s3)
theorem R16.quiet {w2 W : World} {bx : Nat} {p0 p1 p2 p3 s0 s1 s2 s3 : Value} {done : Nat → Bool} (h : R16 w2 bx p0 p1 p2 p3 s0 s1 s2 s3 done W) {i : Nat} (hi : 11 ≠ i) : R16 w2 bx p0 p1 p2 p3 s0 s1 s2 s3 (upd done i) W := by
  refine ⟨h.gr, ?_, ?_⟩ <;> simp only [upd_ne hi]
  · exact h.pre
  · exact h.post
theorem R16.call {w2 W W' : World} {bx : Nat} {p0 p1 p2 p3 s0 s1 s2 s3 : Value} {done : Nat → Bool} (h : R16 w2 bx p0 p1 p2 p3 s0 s1 s2 s3 done W) (h11 : done 11 = false) (g : Gr W W') : R16 w2 bx p0 p1 p2 p3 s0 s1 s2 s3 (upd done 8) W' :=
  ⟨h.gr.trans g, fun _ => (h.pre h11).gr g, (fun h => by rw [upd_ne (by decide), h11] at h; cases h)⟩
theorem R16.store {w2 W : World} {bx : Nat} {p0 p1 p2 p3 s1 : Value} {done : Nat → Bool} (h : R16 w2 bx p0 p1 p2 p3 p0 s1 p2 p3 done W) (hb : w2.heap.size = bx) (h11 : done 11 = false) : R16 w2 bx p0 p1 p2 p3 p0 s1 p2 p3 (upd done 11) (W.setCell ⟨bx, 1, none⟩ s1) :=
  ⟨h.gr.setCell (by rw [hb]; exact Nat.le_refl _) _, (fun h => by rw [upd_self] at h; cases h), fun _ => xcells_set1 (h.pre h11) s1⟩

/-- two numbers in a new slice -/
def Two (W : World) (v : Value) (x y : Int) : Prop := ∃ g, v = .slice (some ⟨g, 0, none⟩) 2 2 ∧ W.cell? ((⟨g, 0, none⟩ : Addr).add 0) = some (.int .i64 x) ∧ W.cell? ((⟨g, 0, none⟩ : Addr).add 1) = some (.int .i64 y)

theorem best_set {q : PP} {X : Nat → Prop} {W w w6 : World} {s x : List Int} {a : Option Addr} {c kb b8 D cx : Nat} {ad : Addr} {pre : List (List Int)} {r p : Rs} {pa : Option Addr} {pk pc : Nat} (hn : BNum q W kb b8 D) (hB : BI q X W s a c kb b8 D pre w6) (hO : Only (fun b => b = q.m ∨ b = b8) w w6)
    (hx : Ints w6 (some ad) q.n x) (hx3 : Is3 w6 ad.block) (hax : D + 4 < ad.block) (H : PHyp q) (hfv : foldV q s (pre ++ [x]) = r.via q.f.times s x) (hl : LCells w6 (restL b8 p pa pk pc)) :
    Only (fun b => b = q.m ∨ b = b8) w ((((w6.setCell ⟨b8, 0, none⟩ (.int .i64 (r.steps + 1))).setCell ⟨b8, 1, none⟩ (.int .i64 (r.time + dur q.f.times s x))).setCell ⟨b8, 2, none⟩ (.slice (some ad) q.n cx)).setCell ⟨b8, 3, none⟩ (.bool true)) ∧
    BI q X W s a c kb b8 D (pre ++ [x]) ((((w6.setCell ⟨b8, 0, none⟩ (.int .i64 (r.steps + 1))).setCell ⟨b8, 1, none⟩ (.int .i64 (r.time + dur q.f.times s x))).setCell ⟨b8, 2, none⟩ (.slice (some ad) q.n cx)).setCell ⟨b8, 3, none⟩ (.bool true)) := by
  obtain ⟨w7, hw7⟩ : ∃ w7, (((w6.setCell ⟨b8, 0, none⟩ (.int .i64 (r.steps + 1))).setCell ⟨b8, 1, none⟩ (.int .i64 (r.time + dur q.f.times s x))).setCell ⟨b8, 2, none⟩ (.slice (some ad) q.n cx)).setCell ⟨b8, 3, none⟩ (.bool true) = w7 := ⟨_, rfl⟩
  have g : Only (fun b => b = b8) w6 w7 := by
    rw [← hw7]
    exact ((((Only.refl (fun b => b = b8) w6).setCell (p := ⟨b8, 0, none⟩) (.inl rfl) _).setCell (p := ⟨b8, 1, none⟩) (.inl rfl) _).setCell (p := ⟨b8, 2, none⟩) (.inl rfl) _).setCell (p := ⟨b8, 3, none⟩) (.inl rfl) _
  have h4 := setCell4 (hl.at 0 rfl) (hl.at 1 rfl) (hl.at 2 rfl) (hl.at 3 rfl) _ _ _ _ w7 hw7.symm
  rw [hw7]
  obtain ⟨_, e, l2, _⟩ := hx.at (j := 0) (by have := H.ok.n1; have := H.nt; omega)
  cases e
  have hi4 := hn.i4
  have hx7 : Ints w7 (some ad) q.n x := hx.onlyAt g (fun ad' e h => by cases e; omega)
  refine ⟨hO.trans (g.mono' (fun i e => .inr e)), hB.set hn g (a' := some ad) (k' := q.n) (c' := cx) ?_ (by rw [hfv]; exact hx7) (fun ad' e => by cases e; exact ⟨hax, hx3.only g (by omega)⟩)⟩
  rw [hfv]
  intro p hp
  simp only [restL, List.mem_cons, List.not_mem_nil, or_false] at hp
  rcases hp with rfl | rfl | rfl | rfl
  · exact ⟨h4.1, by rw [h4.2.2.2.2.1]; exact hl.fr 0 rfl⟩
  · exact ⟨h4.2.1, by rw [h4.2.2.2.2.1]; exact hl.fr 1 rfl⟩
  · exact ⟨h4.2.2.1, by rw [h4.2.2.2.2.1]; exact hl.fr 2 rfl⟩
  · exact ⟨h4.2.2.2.1, by rw [h4.2.2.2.2.1]; exact hl.fr 3 rfl⟩

set_option maxRecDepth 100000 in
set_option maxHeartbeats 4000000 in
theorem best_round (q : PP) (H : PHyp q) (X : Nat → Prop) (s x : List Int) (W w : World) (a : Option Addr) (c kb b8 D cx L : Nat) (ad : Addr) (pre : List (List Int)) {tt0 tt1 tt4 tt5 tt6 tt7 tt10 tt11 tt12 tt13 tt14 tt15 tt16 tt17 tt18 tt19 tt20 tt21 tt22 tt23 tt24 tt25 tt26 tt27 tt28 tt29 tt30 tt31 tt32 tt33 tt34 tt35 tt36 tt37 tt38 tt39 tt40 tt41 tt42 tt43 tt44 tt45 tt46 tt47 tt48 tt49 tt50 tt51 tt52 tt53 tt54 tt55 tt56 tt57 tt58 tt59 tt60 tt61 tt62 tt63 tt64 tt65 tt66 tt67 tt68 tt69 tt70 tt71 tt72 tt73 tt74 tt75 tt76 tt77 tt78 tt79 tt80 tt81 tt82 tt83 tt84 tt85 tt86 tt87 tt88 tt89 tt90 tt91 tt92 tt93 tt94 tt95 tt96 tt97 tt98 tt99 tt100 tt101 tt102 tt103 tt104 tt105 tt106 tt107 tt108 tt109 tt110 : Value} (body : Code) (hbo : (Try.f49.body.bind firstBody) = some body)
    (hI : PInv q X W) (hs : Ints W a q.n s) (hst : StOk q.f s) (hn : BNum q W kb b8 D) (hB : BI q X W s a c kb b8 D pre w) (hx : Ints w (some ad) q.n x) (hax : D + 4 < ad.block) (hx3 : Is3 w ad.block) (hsx : StOk q.f x)
    (hX : ∀ b, X b → b < W.heap.size)
    (ih : stepsB q.f.times s x q.bu = true → ∀ (w : World), PInv q (XL X W.heap.size (D + 4)) w → Ints w (some ad) q.n x → (∀ b, XL X W.heap.size (D + 4) b → b < w.heap.size) → Calls Try.prog 49 #[.pointer (some ⟨q.bp, 0, none⟩), .slice (some ad) q.n cx] w (BPost q (XL X W.heap.size (D + 4)) w x)) :
    body.wpIn (Fence.wide.inRound L) 0 Try.prog (roundQ (fun b => b = q.m ∨ b = b8) (BI q X W s a c kb b8 D) (fun _ _ => False) (pre ++ [x]) w) { tmps := #[tt0, tt1, .pointer (some ⟨W.heap.size, 0, none⟩), .pointer (some ⟨W.heap.size + 1, 0, none⟩), tt4, tt5, tt6, tt7, .pointer (some ⟨b8, 0, none⟩), .slice (some ad) q.n cx, tt10, tt11, tt12, tt13, tt14, tt15, tt16, tt17, tt18, tt19, tt20, tt21, tt22, tt23, tt24, tt25, tt26, tt27, tt28, tt29, tt30, tt31, tt32, tt33, tt34, tt35, tt36, tt37, tt38, tt39, tt40, tt41, tt42, tt43, tt44, tt45, tt46, tt47, tt48, tt49, tt50, tt51, tt52, tt53, tt54, tt55, tt56, tt57, tt58, tt59, tt60, tt61, tt62, tt63, tt64, tt65, tt66, tt67, tt68, tt69, tt70, tt71, tt72, tt73, tt74, tt75, tt76, tt77, tt78, tt79, tt80, tt81, tt82, tt83, tt84, tt85, tt86, tt87, tt88, tt89, tt90, tt91, tt92, tt93, tt94, tt95, tt96, tt97, tt98, tt99, tt100, tt101, tt102, tt103, tt104, tt105, tt106, tt107, tt108, tt109, tt110], defers := [] } w := by
  have hIw := hB.inv hI
  have hsw := hs.only hB.on hI.nocS
  have hxw := hx
  have b2 := hB.loc.at 0 rfl
  have b3 := hB.loc.at 1 rfl
  have c0 := hIw.c0
  have c1 := hIw.c1
  have c3 := hIw.c3
  simp only [Try.f49, Option.bind, firstBody] at hbo
  injection hbo with hbo
  subst hbo
  gi_wp2_with fail
  refine region_inv (F := Fence.wide.inRound L) (by kernel_rfl) (by rfl) (by decide) (fun _ => trivial)
    (fun done' u W' => Kn [some (.pointer (some ⟨q.bp, 0, none⟩)), some (.pointer (some ⟨q.bp, 0, none⟩)), some (.pointer (some ⟨q.bp, 0, none⟩)), some (.agg #[.slice q.ta q.tn q.tc, .slice q.ca q.cn q.cc]), some (.slice a q.n c), some (.slice (some ad) q.n cx), some (.pointer (some ⟨q.bp, 0, none⟩)), some (.pointer (some ⟨q.bp, 0, none⟩)), some (.pointer (some ⟨q.bp, 3, none⟩)), some (.int .i64 q.bu), some (.bool (stepsB q.f.times s x q.bu)), some (.bool (!stepsB q.f.times s x q.bu))] done' u ∧ Gr w W')
    (fun u => ⟨Kn.start _ _, Gr.drew w⟩) ⟨?_, ?_, ?_, ?_, ?_, ?_, ?_, ?_, ?_, ?_, ?_, ?_, trivial⟩ ?_
  · rintro u done' W' hd hanc hclo ⟨hk, hg⟩
    have c_b2 := (hg.cell (lt_cell b2)).trans b2
    refine op_plain (ro := some L) rfl (fun c h => by cases h) fun K hK => ?_
    simp only [fillL, List.setIfInBounds_toArray, List.set_cons_zero, List.set_cons_succ, Nat.zero_add, Nat.reduceAdd] at hK ⊢
    go_simp
    exact hK _ _ ⟨hk.new rfl, hg⟩
  · rintro u done' W' hd hanc hclo ⟨hk, hg⟩
    have e0 := hk.get 0 rfl (hanc 0 (mem_of (by kernel_rfl)))
    refine op_plain (ro := some L) rfl (fun c h => by cases h) fun K hK => ?_
    simp only [fillL, List.setIfInBounds_toArray, List.set_cons_zero, List.set_cons_succ, Nat.zero_add, Nat.reduceAdd, e0] at hK ⊢
    go_simp
    exact hK _ _ ⟨hk.new rfl, hg⟩
  · rintro u done' W' hd hanc hclo ⟨hk, hg⟩
    have e1 := hk.get 1 rfl (hanc 1 (mem_of (by kernel_rfl)))
    refine op_plain (ro := some L) rfl (fun c h => by cases h) fun K hK => ?_
    simp only [fillL, List.setIfInBounds_toArray, List.set_cons_zero, List.set_cons_succ, Nat.zero_add, Nat.reduceAdd, e1] at hK ⊢
    go_simp
    exact hK _ _ ⟨hk.new rfl, hg⟩
  · rintro u done' W' hd hanc hclo ⟨hk, hg⟩
    have e2 := hk.get 2 rfl (hanc 2 (mem_of (by kernel_rfl)))
    have c_c0 := (hg.cell (lt_cell c0)).trans c0
    have c_c1 := (hg.cell (lt_cell c1)).trans c1
    refine op_plain (ro := some L) rfl (fun c h => by cases h) fun K hK => ?_
    simp only [fillL, List.setIfInBounds_toArray, List.set_cons_zero, List.set_cons_succ, Nat.zero_add, Nat.reduceAdd, e2] at hK ⊢
    go_simp
    exact hK _ _ ⟨hk.new rfl, hg⟩
  · rintro u done' W' hd hanc hclo ⟨hk, hg⟩
    have c_b3 := (hg.cell (lt_cell b3)).trans b3
    refine op_plain (ro := some L) rfl (fun c h => by cases h) fun K hK => ?_
    simp only [fillL, List.setIfInBounds_toArray, List.set_cons_zero, List.set_cons_succ, Nat.zero_add, Nat.reduceAdd] at hK ⊢
    go_simp
    exact hK _ _ ⟨hk.new rfl, hg⟩
  · rintro u done' W' hd hanc hclo ⟨hk, hg⟩
    refine op_plain (ro := some L) rfl (fun c h => by cases h) fun K hK => ?_
    simp only [fillL, List.setIfInBounds_toArray, List.set_cons_zero, List.set_cons_succ, Nat.zero_add, Nat.reduceAdd] at hK ⊢
    go_simp
    exact hK _ _ ⟨hk.new rfl, hg⟩
  · rintro u done' W' hd hanc hclo ⟨hk, hg⟩
    have c_b2 := (hg.cell (lt_cell b2)).trans b2
    refine op_plain (ro := some L) rfl (fun c h => by cases h) fun K hK => ?_
    simp only [fillL, List.setIfInBounds_toArray, List.set_cons_zero, List.set_cons_succ, Nat.zero_add, Nat.reduceAdd] at hK ⊢
    go_simp
    exact hK _ _ ⟨hk.new rfl, hg⟩
  · rintro u done' W' hd hanc hclo ⟨hk, hg⟩
    have e6 := hk.get 6 rfl (hanc 6 (mem_of (by kernel_rfl)))
    refine op_plain (ro := some L) rfl (fun c h => by cases h) fun K hK => ?_
    simp only [fillL, List.setIfInBounds_toArray, List.set_cons_zero, List.set_cons_succ, Nat.zero_add, Nat.reduceAdd, e6] at hK ⊢
    go_simp
    exact hK _ _ ⟨hk.new rfl, hg⟩
  · rintro u done' W' hd hanc hclo ⟨hk, hg⟩
    have e7 := hk.get 7 rfl (hanc 7 (mem_of (by kernel_rfl)))
    refine op_plain (ro := some L) rfl (fun c h => by cases h) fun K hK => ?_
    simp only [fillL, List.setIfInBounds_toArray, List.set_cons_zero, List.set_cons_succ, Nat.zero_add, Nat.reduceAdd, e7] at hK ⊢
    go_simp
    exact hK _ _ ⟨hk.new rfl, hg⟩
  · rintro u done' W' hd hanc hclo ⟨hk, hg⟩
    have e8 := hk.get 8 rfl (hanc 8 (mem_of (by kernel_rfl)))
    have c_c3 := (hg.cell (lt_cell c3)).trans c3
    refine op_plain (ro := some L) rfl (fun c h => by cases h) fun K hK => ?_
    simp only [fillL, List.setIfInBounds_toArray, List.set_cons_zero, List.set_cons_succ, Nat.zero_add, Nat.reduceAdd, e8] at hK ⊢
    go_simp
    exact hK _ _ ⟨hk.new rfl, hg⟩
  · rintro u done' W' hd hanc hclo ⟨hk, hg⟩
    have e3 := hk.get 3 rfl (hanc 3 (mem_of (by kernel_rfl)))
    have e4 := hk.get 4 rfl (hanc 4 (mem_of (by kernel_rfl)))
    have e5 := hk.get 5 rfl (hanc 5 (mem_of (by kernel_rfl)))
    have e9 := hk.get 9 rfl (hanc 9 (mem_of (by kernel_rfl)))
    have HCON := Lib.hid (steps_any q.ta q.ca a (some ad) q.tn q.tc q.cn q.cc q.n c cx q.f s x q.bu W' (hIw.fl.gr hg) H.ok (hsw.gr hg) (hxw.gr hg) hst hsx)
    refine op_plain (ro := some L) rfl (fun c h => by cases h) fun K hK => ?_
    simp only [fillL, List.setIfInBounds_toArray, List.set_cons_zero, List.set_cons_succ, Nat.zero_add, Nat.reduceAdd, e3, e4, e5, e9] at hK ⊢
    go_simp
    refine HCON.out.mono ?_
    rintro e w2 ⟨rfl, hg2⟩
    exact hK _ _ ⟨hk.new rfl, hg.trans hg2⟩
  · rintro u done' W' hd hanc hclo ⟨hk, hg⟩
    have e10 := hk.get 10 rfl (hanc 10 (mem_of (by kernel_rfl)))
    refine op_plain (ro := some L) rfl (fun c h => by cases h) fun K hK => ?_
    simp only [fillL, List.setIfInBounds_toArray, List.set_cons_zero, List.set_cons_succ, Nat.zero_add, Nat.reduceAdd, e10] at hK ⊢
    go_simp
    exact hK _ _ ⟨hk.new rfl, hg⟩
  · rintro u W' ⟨done', hdn, hk, hg⟩
    have e0 := hk.get 0 rfl (hdn 0 (by decide))
    have e1 := hk.get 1 rfl (hdn 1 (by decide))
    have e2 := hk.get 2 rfl (hdn 2 (by decide))
    have e3 := hk.get 3 rfl (hdn 3 (by decide))
    have e4 := hk.get 4 rfl (hdn 4 (by decide))
    have e5 := hk.get 5 rfl (hdn 5 (by decide))
    have e6 := hk.get 6 rfl (hdn 6 (by decide))
    have e7 := hk.get 7 rfl (hdn 7 (by decide))
    have e8 := hk.get 8 rfl (hdn 8 (by decide))
    have e9 := hk.get 9 rfl (hdn 9 (by decide))
    have e10 := hk.get 10 rfl (hdn 10 (by decide))
    have e11 := hk.get 11 rfl (hdn 11 (by decide))
    simp only [fillL, List.setIfInBounds_toArray, List.set_cons_zero, List.set_cons_succ, Nat.zero_add, Nat.reduceAdd, e0, e1, e2, e3, e4, e5, e6, e7, e8, e9, e10, e11]
    clear hk hdn e0 e1 e2 e3 e4 e5 e6 e7 e8 e9 e10 e11
    cases hsb : stepsB q.f.times s x q.bu with
    | false =>
      have hfo : Hid (foldV q s (pre ++ [x]) = foldV q s pre) := Lib.hid (by simp [foldV, bestStep, hsb])
      clear hsb
      gi_wp2
      exact ⟨hg.only _, (hB.gr hn hg).same hfo.out⟩
    | true =>
      have hB1 := hB.gr hn hg
      have hx1 := hx.gr hg
      have hx13 := hx3.gr hg
      have hXw : ∀ b, XL X W.heap.size (D + 4) b → b < W'.heap.size := fun b hb => by
        have l1 := hB1.on.size
        obtain ⟨ad', e, l2, _⟩ := hx1.at (j := 0) (by have := H.ok.n1; have := H.nt; omega)
        cases e
        rcases hb with hb | hb
        · have := hX b hb; omega
        · omega
      have HIH := Lib.hid (ih hsb W' (hB1.inv hI) hx1 hXw)
      have HSB := Lib.hid hsb
      have b2 := hB1.loc.at 0 rfl
      have hbd := bestV_bd (bu := q.bu) H.ok H.sto x hsx
      have hfo : Hid (foldV q s (pre ++ [x]) = if (bestV q.f q.to q.bu x).is then (if !(foldV q s pre).is || rsLess ((bestV q.f q.to q.bu x).via q.f.times s x) (foldV q s pre) then (bestV q.f q.to q.bu x).via q.f.times s x else foldV q s pre) else foldV q s pre) := Lib.hid (by simp [foldV, bestStep, hsb])
      clear hsb ih
      generalize hr : bestV q.f q.to q.bu x = r at *
      gi_wp2_with fail
      refine ⟨trivial, rfl, ?_⟩
      refine (CallsIn.inRound L (callsIn_wide.2 HIH.out)).mono ?_
      rintro e w2 ⟨v, rfl, ⟨ra, rk, rc, rfl, hri, hrx⟩, hI2, hO2⟩
      rw [hr]
      have HR := Lib.hid hr
      have hB2 := hB1.call hI hO2 hI2
      have hx2 := hx1.only hO2 (hB1.inv hI).noc
      have hx23 := hx13.onlyN hO2 (hB1.inv hI).noc
      have hO02 : Only (fun b => b = q.m ∨ b = b8) w w2 := (hg.only _).trans (hO2.mono' (fun i e => .inl e))
      clear hr b2 hB1 hx1 HIH hO2 hg
      have hq1 := hbd.s0
      have hq2 := hbd.s1
      have hq3 := hbd.t0
      have hq4 := hbd.t1
      cases his : r.is with
      | false =>
        gi_wp2_with fail
        exact ⟨hO02.thenGr (Gr.alloc _ _), (hB2.gr hn (Gr.alloc _ _)).same (by rw [hfo.out, if_neg (by simp [his])])⟩
      | true =>
        have hab := aboveV_le (stepsB_true HSB.out).1
        have hdd := durTo_bd H.ok (fun c hc => (hst.ver c hc).1) hsx (fun c hc => hab c (by rw [hsx.len]; exact hc)) q.f.times.length (Nat.le_refl _)
        have hd0 : 0 ≤ dur q.f.times s x := by unfold dur; rw [hsx.len]; exact hdd.1
        have hd1 : dur q.f.times s x ≤ 60000 := by have := hdd.2; have := H.ok.n6; unfold dur; rw [hsx.len]; omega
        clear hdd
        gi_wp2_with fail
        have hXc := xcells_new w2 (.int .i64 (r.steps + 1)) (.int .i64 r.time) (.slice ra rk rc) (.bool true)
        have hg3 := Gr.alloc w2 (.cells #[.int .i64 (r.steps + 1), .int .i64 r.time, .slice ra rk rc, .bool true] 79)
        obtain ⟨w3, hw3⟩ : ∃ w3, w2.alloc (.cells #[.int .i64 (r.steps + 1), .int .i64 r.time, .slice ra rk rc, .bool true] 79) = w3 := ⟨_, rfl⟩
        rw [hw3] at hXc hg3 ⊢
        clear hw3
        have hI2w := hB2.inv hI
        have hs2w := hs.only hB2.on hI.nocS
        have d2 := hB2.loc.at 0 rfl
        have d3 := hB2.loc.at 1 rfl
        have g0 := hI2w.c0
        have g1 := hI2w.c1
        obtain ⟨bx, hbx⟩ : ∃ bx, w2.heap.size = bx := ⟨_, rfl⟩
        rw [hbx] at hXc ⊢
        have HBX := Lib.hid hbx
        clear hbx
        refine region_inv (F := Fence.wide.inRound L) (by kernel_rfl) (by rfl) (by decide) (fun _ => trivial)
          (fun done' u W' => Kn [some (.pointer (some ⟨bx, 1, none⟩)), some (.int .i64 r.time), some (.pointer (some ⟨q.bp, 0, none⟩)), some (.pointer (some ⟨q.bp, 0, none⟩)), some (.pointer (some ⟨q.bp, 0, none⟩)), some (.agg #[.slice q.ta q.tn q.tc, .slice q.ca q.cn q.cc]), some (.slice a q.n c), some (.slice (some ad) q.n cx), some (.int .i64 (dur q.f.times s x)), some (.int .i64 (r.time + dur q.f.times s x)), some (.pointer (some ⟨bx, 1, none⟩)), none] done' u ∧ R16 w2 bx (.int .i64 (r.steps + 1)) (.int .i64 (r.time)) (.slice ra rk rc) (.bool true) (.int .i64 (r.steps + 1)) (.int .i64 (r.time + dur q.f.times s x)) (.slice ra rk rc) (.bool true) done' W')
          (fun u => ⟨Kn.start _ _, ⟨hg3.drewR, fun _ => hXc.gr (Gr.drew _), (fun h => by cases h)⟩⟩) ⟨?_, ?_, ?_, ?_, ?_, ?_, ?_, ?_, ?_, ?_, ?_, ?_, trivial⟩ ?_
        · rintro u done' W' hd hanc hclo ⟨hk, hR⟩
          refine op_plain (ro := some L) rfl (fun c h => by cases h) fun K hK => ?_
          simp only [fillL, List.setIfInBounds_toArray, List.set_cons_zero, List.set_cons_succ, Nat.zero_add, Nat.reduceAdd] at hK ⊢
          go_simp
          exact hK _ _ ⟨hk.new rfl, hR.quiet (by decide)⟩
        · rintro u done' W' hd hanc hclo ⟨hk, hR⟩
          have e0 := hk.get 0 rfl (hanc 0 (mem_of (by kernel_rfl)))
          have hl := hR.pre (not_done hclo hd 11 rfl (by kernel_rfl))
          have y1 := hl.at 1 rfl
          refine op_plain (ro := some L) rfl (fun c h => by cases h) fun K hK => ?_
          simp only [fillL, List.setIfInBounds_toArray, List.set_cons_zero, List.set_cons_succ, Nat.zero_add, Nat.reduceAdd, e0] at hK ⊢
          go_simp
          exact hK _ _ ⟨hk.new rfl, hR.quiet (by decide)⟩
        · rintro u done' W' hd hanc hclo ⟨hk, hR⟩
          have c_d2 := (hR.gr.cell (lt_cell d2)).trans d2
          refine op_plain (ro := some L) rfl (fun c h => by cases h) fun K hK => ?_
          simp only [fillL, List.setIfInBounds_toArray, List.set_cons_zero, List.set_cons_succ, Nat.zero_add, Nat.reduceAdd] at hK ⊢
          go_simp
          exact hK _ _ ⟨hk.new rfl, hR.quiet (by decide)⟩
        · rintro u done' W' hd hanc hclo ⟨hk, hR⟩
          have e2 := hk.get 2 rfl (hanc 2 (mem_of (by kernel_rfl)))
          refine op_plain (ro := some L) rfl (fun c h => by cases h) fun K hK => ?_
          simp only [fillL, List.setIfInBounds_toArray, List.set_cons_zero, List.set_cons_succ, Nat.zero_add, Nat.reduceAdd, e2] at hK ⊢
          go_simp
          exact hK _ _ ⟨hk.new rfl, hR.quiet (by decide)⟩
        · rintro u done' W' hd hanc hclo ⟨hk, hR⟩
          have e3 := hk.get 3 rfl (hanc 3 (mem_of (by kernel_rfl)))
          refine op_plain (ro := some L) rfl (fun c h => by cases h) fun K hK => ?_
          simp only [fillL, List.setIfInBounds_toArray, List.set_cons_zero, List.set_cons_succ, Nat.zero_add, Nat.reduceAdd, e3] at hK ⊢
          go_simp
          exact hK _ _ ⟨hk.new rfl, hR.quiet (by decide)⟩
        · rintro u done' W' hd hanc hclo ⟨hk, hR⟩
          have e4 := hk.get 4 rfl (hanc 4 (mem_of (by kernel_rfl)))
          have c_g0 := (hR.gr.cell (lt_cell g0)).trans g0
          have c_g1 := (hR.gr.cell (lt_cell g1)).trans g1
          refine op_plain (ro := some L) rfl (fun c h => by cases h) fun K hK => ?_
          simp only [fillL, List.setIfInBounds_toArray, List.set_cons_zero, List.set_cons_succ, Nat.zero_add, Nat.reduceAdd, e4] at hK ⊢
          go_simp
          exact hK _ _ ⟨hk.new rfl, hR.quiet (by decide)⟩
        · rintro u done' W' hd hanc hclo ⟨hk, hR⟩
          have c_d3 := (hR.gr.cell (lt_cell d3)).trans d3
          refine op_plain (ro := some L) rfl (fun c h => by cases h) fun K hK => ?_
          simp only [fillL, List.setIfInBounds_toArray, List.set_cons_zero, List.set_cons_succ, Nat.zero_add, Nat.reduceAdd] at hK ⊢
          go_simp
          exact hK _ _ ⟨hk.new rfl, hR.quiet (by decide)⟩
        · rintro u done' W' hd hanc hclo ⟨hk, hR⟩
          refine op_plain (ro := some L) rfl (fun c h => by cases h) fun K hK => ?_
          simp only [fillL, List.setIfInBounds_toArray, List.set_cons_zero, List.set_cons_succ, Nat.zero_add, Nat.reduceAdd] at hK ⊢
          go_simp
          exact hK _ _ ⟨hk.new rfl, hR.quiet (by decide)⟩
        · rintro u done' W' hd hanc hclo ⟨hk, hR⟩
          have e5 := hk.get 5 rfl (hanc 5 (mem_of (by kernel_rfl)))
          have e6 := hk.get 6 rfl (hanc 6 (mem_of (by kernel_rfl)))
          have e7 := hk.get 7 rfl (hanc 7 (mem_of (by kernel_rfl)))
          have h11 := not_done hclo hd 11 rfl (by kernel_rfl)
          have HCON := Lib.hid (duration_any q.ta q.ca a (some ad) q.tn q.tc q.cn q.cc q.n c cx q.f s x W' (hI2w.fl.gr hR.gr) H.ok (hs2w.gr hR.gr) (hx2.gr hR.gr) (fun c hc => (hst.ver c hc).1) hsx (fun c hc => hab c (by rw [hsx.len]; exact hc)))
          refine op_plain (ro := some L) rfl (fun c h => by cases h) fun K hK => ?_
          simp only [fillL, List.setIfInBounds_toArray, List.set_cons_zero, List.set_cons_succ, Nat.zero_add, Nat.reduceAdd, e5, e6, e7] at hK ⊢
          go_simp
          refine HCON.out.mono ?_
          rintro e w5 ⟨rfl, hg5⟩
          exact hK _ _ ⟨hk.new rfl, hR.call h11 hg5⟩
        · rintro u done' W' hd hanc hclo ⟨hk, hR⟩
          have e1 := hk.get 1 rfl (hanc 1 (mem_of (by kernel_rfl)))
          have e8 := hk.get 8 rfl (hanc 8 (mem_of (by kernel_rfl)))
          have hw : IntKind.i64.wrap (r.time + dur q.f.times s x) = r.time + dur q.f.times s x := IntWalk.i64_in _ (by omega)
          refine op_plain (ro := some L) rfl (fun c h => by cases h) fun K hK => ?_
          simp only [fillL, List.setIfInBounds_toArray, List.set_cons_zero, List.set_cons_succ, Nat.zero_add, Nat.reduceAdd, e1, e8] at hK ⊢
          go_simp
          exact hK _ _ ⟨hk.new rfl, hR.quiet (by decide)⟩
        · rintro u done' W' hd hanc hclo ⟨hk, hR⟩
          refine op_plain (ro := some L) rfl (fun c h => by cases h) fun K hK => ?_
          simp only [fillL, List.setIfInBounds_toArray, List.set_cons_zero, List.set_cons_succ, Nat.zero_add, Nat.reduceAdd] at hK ⊢
          go_simp
          exact hK _ _ ⟨hk.new rfl, hR.quiet (by decide)⟩
        · rintro u done' W' hd hanc hclo ⟨hk, hR⟩
          have e9 := hk.get 9 rfl (hanc 9 (mem_of (by kernel_rfl)))
          have e10 := hk.get 10 rfl (hanc 10 (mem_of (by kernel_rfl)))
          have hl := hR.pre hd
          have y1 := hl.at 1 rfl
          have y2 := hl.fr 1 rfl
          refine op_plain (ro := some L) rfl (fun c h => by cases h) fun K hK => ?_
          simp only [fillL, List.setIfInBounds_toArray, List.set_cons_zero, List.set_cons_succ, Nat.zero_add, Nat.reduceAdd, e9, e10] at hK ⊢
          go_simp
          exact hK undef _ ⟨hk.skip rfl, hR.store HBX.out hd⟩
        · rintro u W' ⟨done', hdn, hk, hR⟩
          have e0 := hk.get 0 rfl (hdn 0 (by decide))
          have e1 := hk.get 1 rfl (hdn 1 (by decide))
          have e2 := hk.get 2 rfl (hdn 2 (by decide))
          have e3 := hk.get 3 rfl (hdn 3 (by decide))
          have e4 := hk.get 4 rfl (hdn 4 (by decide))
          have e5 := hk.get 5 rfl (hdn 5 (by decide))
          have e6 := hk.get 6 rfl (hdn 6 (by decide))
          have e7 := hk.get 7 rfl (hdn 7 (by decide))
          have e8 := hk.get 8 rfl (hdn 8 (by decide))
          have e9 := hk.get 9 rfl (hdn 9 (by decide))
          have e10 := hk.get 10 rfl (hdn 10 (by decide))
          simp only [fillL, List.setIfInBounds_toArray, List.set_cons_zero, List.set_cons_succ, Nat.zero_add, Nat.reduceAdd, e0, e1, e2, e3, e4, e5, e6, e7, e8, e9, e10]
          have hg4 := hR.gr
          have hX4 := hR.post (hdn 11 (by decide))
          clear hk hdn hR hXc hg3 d2 d3 g0 g1 e0 e1 e2 e3 e4 e5 e6 e7 e8 e9 e10
          rename World => w4
          have hB4 := hB2.gr hn hg4
          have hx4 := hx2.gr hg4
          obtain ⟨pa, pk, pc, hl8, hi8, had8⟩ := hB4.best
          have hO04 := hO02.thenGr hg4
          generalize hpp : foldV q s pre = p at hl8 hi8 hfo
          have HPP := Lib.hid hpp
          clear hpp hI2w hs2w
          have x0 := hX4.at 0 rfl
          have x1 := hX4.at 1 rfl
          have y0 := hl8.at 0 rfl
          have y1 := hl8.at 1 rfl
          have y3 := hl8.at 3 rfl
          cases hpi : p.is with
          | false =>
            rw [hpi] at y3
            gi_wp2_with fail
            refine region_inv (F := Fence.wide.inRound L) (by kernel_rfl) (by rfl) (by decide) (fun _ => trivial)
              (fun done' u W' => Kn [some (.pointer (some ⟨b8, 3, none⟩)), some (.bool false), some (.bool true), some (.bool true), none, none, none, none, none, none, none, none, none, none, none, none, none, some (.bool true)] done' u ∧ Gr w4 W' ∧ True)
              (fun u => ⟨Kn.start _ _, ⟨Gr.drew w4, trivial⟩⟩) ⟨?_, ?_, ?_, ?_, ?_, ?_, ?_, ?_, ?_, ?_, ?_, ?_, ?_, ?_, ?_, ?_, ?_, ?_, trivial⟩ ?_
            · rintro u done' W' hd hanc hclo ⟨hk, hg⟩
              refine op_plain (ro := some L) rfl (fun c h => by cases h) fun K hK => ?_
              simp only [fillL, List.setIfInBounds_toArray, List.set_cons_zero, List.set_cons_succ, Nat.zero_add, Nat.reduceAdd] at hK ⊢
              go_simp
              exact hK _ _ ⟨hk.new rfl, hg⟩
            · rintro u done' W' hd hanc hclo ⟨hk, hg⟩
              have e0 := hk.get 0 rfl (hanc 0 (mem_of (by kernel_rfl)))
              have c_y3 := (hg.1.cell (lt_cell y3)).trans y3
              refine op_plain (ro := some L) rfl (fun c h => by cases h) fun K hK => ?_
              simp only [fillL, List.setIfInBounds_toArray, List.set_cons_zero, List.set_cons_succ, Nat.zero_add, Nat.reduceAdd, e0] at hK ⊢
              go_simp
              exact hK _ _ ⟨hk.new rfl, hg⟩
            · rintro u done' W' hd hanc hclo ⟨hk, hg⟩
              have e1 := hk.get 1 rfl (hanc 1 (mem_of (by kernel_rfl)))
              refine op_plain (ro := some L) rfl (fun c h => by cases h) fun K hK => ?_
              simp only [fillL, List.setIfInBounds_toArray, List.set_cons_zero, List.set_cons_succ, Nat.zero_add, Nat.reduceAdd, e1] at hK ⊢
              go_simp
              exact hK _ _ ⟨hk.new rfl, hg⟩
            · rintro u done' W' hd hanc hclo ⟨hk, hg⟩
              have e2 := hk.get 2 rfl (hanc 2 (mem_of (by kernel_rfl)))
              refine op_plain (ro := some L) rfl (fun c h => by cases h) fun K hK => ?_
              simp only [fillL, List.setIfInBounds_toArray, List.set_cons_zero, List.set_cons_succ, Nat.zero_add, Nat.reduceAdd, e2] at hK ⊢
              go_simp
              exact hK _ _ ⟨hk.new rfl, hg⟩
            · intro u done' W' hd hanc hclo hR
              have e3 := hR.1.get 3 rfl (hanc 3 (mem_of (by kernel_rfl)))
              with_reducible refine op_skip 3 false e3 rfl ?_ ?_ rfl ?_
              · decide
              · rfl
              · obtain ⟨hk, hg⟩ := hR
                exact ⟨hk.skip rfl, hg⟩
            · intro u done' W' hd hanc hclo hR
              have e3 := hR.1.get 3 rfl (hanc 3 (mem_of (by kernel_rfl)))
              with_reducible refine op_skip 3 false e3 rfl ?_ ?_ rfl ?_
              · decide
              · rfl
              · obtain ⟨hk, hg⟩ := hR
                exact ⟨hk.skip rfl, hg⟩
            · intro u done' W' hd hanc hclo hR
              have e3 := hR.1.get 3 rfl (hanc 3 (mem_of (by kernel_rfl)))
              with_reducible refine op_skip 3 false e3 rfl ?_ ?_ rfl ?_
              · decide
              · rfl
              · obtain ⟨hk, hg⟩ := hR
                exact ⟨hk.skip rfl, hg⟩
            · intro u done' W' hd hanc hclo hR
              have e3 := hR.1.get 3 rfl (hanc 3 (mem_of (by kernel_rfl)))
              with_reducible refine op_skip 3 false e3 rfl ?_ ?_ rfl ?_
              · decide
              · rfl
              · obtain ⟨hk, hg⟩ := hR
                exact ⟨hk.skip rfl, hg⟩
            · intro u done' W' hd hanc hclo hR
              have e3 := hR.1.get 3 rfl (hanc 3 (mem_of (by kernel_rfl)))
              with_reducible refine op_skip 3 false e3 rfl ?_ ?_ rfl ?_
              · decide
              · rfl
              · obtain ⟨hk, hg⟩ := hR
                exact ⟨hk.skip rfl, hg⟩
            · intro u done' W' hd hanc hclo hR
              have e3 := hR.1.get 3 rfl (hanc 3 (mem_of (by kernel_rfl)))
              with_reducible refine op_skip 3 false e3 rfl ?_ ?_ rfl ?_
              · decide
              · rfl
              · obtain ⟨hk, hg⟩ := hR
                exact ⟨hk.skip rfl, hg⟩
            · intro u done' W' hd hanc hclo hR
              have e3 := hR.1.get 3 rfl (hanc 3 (mem_of (by kernel_rfl)))
              with_reducible refine op_skip 3 false e3 rfl ?_ ?_ rfl ?_
              · decide
              · rfl
              · obtain ⟨hk, hg⟩ := hR
                exact ⟨hk.skip rfl, hg⟩
            · intro u done' W' hd hanc hclo hR
              have e3 := hR.1.get 3 rfl (hanc 3 (mem_of (by kernel_rfl)))
              with_reducible refine op_skip 3 false e3 rfl ?_ ?_ rfl ?_
              · decide
              · rfl
              · obtain ⟨hk, hg⟩ := hR
                exact ⟨hk.skip rfl, hg⟩
            · intro u done' W' hd hanc hclo hR
              have e3 := hR.1.get 3 rfl (hanc 3 (mem_of (by kernel_rfl)))
              with_reducible refine op_skip 3 false e3 rfl ?_ ?_ rfl ?_
              · decide
              · rfl
              · obtain ⟨hk, hg⟩ := hR
                exact ⟨hk.skip rfl, hg⟩
            · intro u done' W' hd hanc hclo hR
              have e3 := hR.1.get 3 rfl (hanc 3 (mem_of (by kernel_rfl)))
              with_reducible refine op_skip 3 false e3 rfl ?_ ?_ rfl ?_
              · decide
              · rfl
              · obtain ⟨hk, hg⟩ := hR
                exact ⟨hk.skip rfl, hg⟩
            · intro u done' W' hd hanc hclo hR
              have e3 := hR.1.get 3 rfl (hanc 3 (mem_of (by kernel_rfl)))
              with_reducible refine op_skip 3 false e3 rfl ?_ ?_ rfl ?_
              · decide
              · rfl
              · obtain ⟨hk, hg⟩ := hR
                exact ⟨hk.skip rfl, hg⟩
            · intro u done' W' hd hanc hclo hR
              have e3 := hR.1.get 3 rfl (hanc 3 (mem_of (by kernel_rfl)))
              with_reducible refine op_skip 3 false e3 rfl ?_ ?_ rfl ?_
              · decide
              · rfl
              · obtain ⟨hk, hg⟩ := hR
                exact ⟨hk.skip rfl, hg⟩
            · intro u done' W' hd hanc hclo hR
              have e3 := hR.1.get 3 rfl (hanc 3 (mem_of (by kernel_rfl)))
              with_reducible refine op_skip 3 false e3 rfl ?_ ?_ rfl ?_
              · decide
              · rfl
              · obtain ⟨hk, hg⟩ := hR
                exact ⟨hk.skip rfl, hg⟩
            · rintro u done' W' hd hanc hclo ⟨hk, hg⟩
              have e3 := hk.get 3 rfl (hanc 3 (mem_of (by kernel_rfl)))
              refine op_plain (ro := some L) rfl (fun c h => by cases h) fun K hK => ?_
              simp only [fillL, List.setIfInBounds_toArray, List.set_cons_zero, List.set_cons_succ, Nat.zero_add, Nat.reduceAdd, e3] at hK ⊢
              go_simp
              exact hK _ _ ⟨hk.new rfl, hg⟩
            · rintro u W' ⟨done', hdn, hk, hg⟩
              have e0 := hk.get 0 rfl (hdn 0 (by decide))
              have e1 := hk.get 1 rfl (hdn 1 (by decide))
              have e2 := hk.get 2 rfl (hdn 2 (by decide))
              have e3 := hk.get 3 rfl (hdn 3 (by decide))
              have e17 := hk.get 17 rfl (hdn 17 (by decide))
              simp only [fillL, List.setIfInBounds_toArray, List.set_cons_zero, List.set_cons_succ, Nat.zero_add, Nat.reduceAdd, e0, e1, e2, e3, e17]
              have hX5 := hX4.gr hg.1
              have hl5 := hl8.gr hg.1
              have hB5 := hB4.gr hn hg.1
              have hx5 := hx4.gr hg.1
              have hO05 := hO04.thenGr hg.1
              have HFV : Hid (foldV q s (pre ++ [x]) = r.via q.f.times s x) := Lib.hid (by rw [hfo.out, if_pos his, if_pos (by simp [hpi])])
              clear hX4 hl8 hB4 hx4 hO04 hfo x0 x1 y0 y1 y3
              have x0 := hX5.at 0 rfl
              have x1 := hX5.at 1 rfl
              have x2 := hX5.at 2 rfl
              have x3 := hX5.at 3 rfl
              have xf := hX5.fr 2 rfl
              have y0 := hl5.at 0 rfl
              have y1 := hl5.at 1 rfl
              have y2 := hl5.at 2 rfl
              have y3 := hl5.at 3 rfl
              have z0 := hl5.fr 0 rfl
              have z1 := hl5.fr 1 rfl
              have z2 := hl5.fr 2 rfl
              have z3 := hl5.fr 3 rfl
              have hnb : b8 < bx := by
                have l1 := hn.i4
                obtain ⟨_, e, l2, _⟩ := hx2.at (j := 0) (by have := H.ok.n1; have := H.nt; omega)
                cases e
                have := HBX.out
                omega
              have hne : bx ≠ b8 := by omega
              have hne2 : b8 ≠ bx := by omega
              gi_wp2_with fail
              have hG6 : Gr w2 (W'.setCell ⟨bx, 2, none⟩ (.slice (some ad) q.n cx)) := (hg4.trans hg.1).setCell (by rw [HBX.out]; exact Nat.le_refl _) _
              exact best_set hn (hB2.gr hn hG6) (hO02.thenGr hG6) (hx2.gr hG6) (hx23.gr hG6) hax H HFV.out (hl5.only (S := fun b => b = bx) (Only.setCell (S := fun b => b = bx) (Only.refl _ _) (p := ⟨bx, 2, none⟩) (.inl rfl) _) (fun p hp => by rw [restL_blocks p hp]; exact hne2))
          | true =>
            rw [hpi] at y3
            gi_wp2_with fail
            refine region_inv (F := Fence.wide.inRound L) (by kernel_rfl) (by rfl) (by decide) (fun _ => trivial)
              (fun done' u W' => Kn [some (.pointer (some ⟨b8, 3, none⟩)), some (.bool true), some (.bool false), some (.bool false), some (.pointer (some ⟨bx, 0, none⟩)), some (.int .i64 (r.steps + 1)), some (.pointer (some ⟨b8, 0, none⟩)), some (.int .i64 p.steps), some (.int .i64 (cmpI (r.steps + 1) p.steps)), some (.pointer (some ⟨bx, 1, none⟩)), some (.int .i64 (r.time + dur q.f.times s x)), some (.pointer (some ⟨b8, 1, none⟩)), some (.int .i64 p.time), some (.int .i64 (cmpI (r.time + dur q.f.times s x) p.time)), none, some (.int .i64 (orI (cmpI (r.steps + 1) p.steps) (cmpI (r.time + dur q.f.times s x) p.time))), some (.bool (decide (orI (cmpI (r.steps + 1) p.steps) (cmpI (r.time + dur q.f.times s x) p.time) < 0))), some (.bool (decide (orI (cmpI (r.steps + 1) p.steps) (cmpI (r.time + dur q.f.times s x) p.time) < 0)))] done' u ∧ Gr w4 W' ∧ (done' 14 = true → Two W' (u 14) (cmpI (r.steps + 1) p.steps) (cmpI (r.time + dur q.f.times s x) p.time)))
              (fun u => ⟨Kn.start _ _, ⟨Gr.drew w4, fun h => by cases h⟩⟩) ⟨?_, ?_, ?_, ?_, ?_, ?_, ?_, ?_, ?_, ?_, ?_, ?_, ?_, ?_, ?_, ?_, ?_, ?_, trivial⟩ ?_
            · rintro u done' W' hd hanc hclo ⟨hk, hg⟩
              refine op_plain (ro := some L) rfl (fun c h => by cases h) fun K hK => ?_
              simp only [fillL, List.setIfInBounds_toArray, List.set_cons_zero, List.set_cons_succ, Nat.zero_add, Nat.reduceAdd] at hK ⊢
              go_simp
              exact hK _ _ ⟨hk.new rfl, ⟨hg.1, fun h => by rw [upd_ne (by decide)] at h; simpa using hg.2 h⟩⟩
            · rintro u done' W' hd hanc hclo ⟨hk, hg⟩
              have e0 := hk.get 0 rfl (hanc 0 (mem_of (by kernel_rfl)))
              have c_y3 := (hg.1.cell (lt_cell y3)).trans y3
              refine op_plain (ro := some L) rfl (fun c h => by cases h) fun K hK => ?_
              simp only [fillL, List.setIfInBounds_toArray, List.set_cons_zero, List.set_cons_succ, Nat.zero_add, Nat.reduceAdd, e0] at hK ⊢
              go_simp
              exact hK _ _ ⟨hk.new rfl, ⟨hg.1, fun h => by rw [upd_ne (by decide)] at h; simpa using hg.2 h⟩⟩
            · rintro u done' W' hd hanc hclo ⟨hk, hg⟩
              have e1 := hk.get 1 rfl (hanc 1 (mem_of (by kernel_rfl)))
              refine op_plain (ro := some L) rfl (fun c h => by cases h) fun K hK => ?_
              simp only [fillL, List.setIfInBounds_toArray, List.set_cons_zero, List.set_cons_succ, Nat.zero_add, Nat.reduceAdd, e1] at hK ⊢
              go_simp
              exact hK _ _ ⟨hk.new rfl, ⟨hg.1, fun h => by rw [upd_ne (by decide)] at h; simpa using hg.2 h⟩⟩
            · rintro u done' W' hd hanc hclo ⟨hk, hg⟩
              have e2 := hk.get 2 rfl (hanc 2 (mem_of (by kernel_rfl)))
              refine op_plain (ro := some L) rfl (fun c h => by cases h) fun K hK => ?_
              simp only [fillL, List.setIfInBounds_toArray, List.set_cons_zero, List.set_cons_succ, Nat.zero_add, Nat.reduceAdd, e2] at hK ⊢
              go_simp
              exact hK _ _ ⟨hk.new rfl, ⟨hg.1, fun h => by rw [upd_ne (by decide)] at h; simpa using hg.2 h⟩⟩
            · intro u done' W' hd hanc hclo hR
              have hk := hR.1
              have e3 := hk.get 3 rfl (hanc 3 (mem_of (by kernel_rfl)))
              with_reducible refine op_meetIn 3 false e3 ?_ ?_ ?_ ?_
              · decide
              · rfl
              · rfl
              refine op_in (ro := some L) ?_ ?_
              · intro c h; cases h
              intro K hK
              have hg := hR.2
              simp only [fillL, List.setIfInBounds_toArray, List.set_cons_zero, List.set_cons_succ, Nat.zero_add, Nat.reduceAdd, e3] at hK ⊢
              go_simp
              exact hK _ _ ⟨hk.new rfl, ⟨hg.1, fun h => by rw [upd_ne (by decide)] at h; simpa using hg.2 h⟩⟩
            · intro u done' W' hd hanc hclo hR
              have hk := hR.1
              have e3 := hk.get 3 rfl (hanc 3 (mem_of (by kernel_rfl)))
              have e4 := hk.get 4 rfl (hanc 4 (mem_of (by kernel_rfl)))
              with_reducible refine op_meetIn 3 false e3 ?_ ?_ ?_ ?_
              · decide
              · rfl
              · rfl
              refine op_in (ro := some L) ?_ ?_
              · intro c h; cases h
              intro K hK
              have hg := hR.2
              have c_x0 := (hg.1.cell (lt_cell x0)).trans x0
              simp only [fillL, List.setIfInBounds_toArray, List.set_cons_zero, List.set_cons_succ, Nat.zero_add, Nat.reduceAdd, e3, e4] at hK ⊢
              go_simp
              exact hK _ _ ⟨hk.new rfl, ⟨hg.1, fun h => by rw [upd_ne (by decide)] at h; simpa using hg.2 h⟩⟩
            · intro u done' W' hd hanc hclo hR
              have hk := hR.1
              have e3 := hk.get 3 rfl (hanc 3 (mem_of (by kernel_rfl)))
              with_reducible refine op_meetIn 3 false e3 ?_ ?_ ?_ ?_
              · decide
              · rfl
              · rfl
              refine op_in (ro := some L) ?_ ?_
              · intro c h; cases h
              intro K hK
              have hg := hR.2
              simp only [fillL, List.setIfInBounds_toArray, List.set_cons_zero, List.set_cons_succ, Nat.zero_add, Nat.reduceAdd, e3] at hK ⊢
              go_simp
              exact hK _ _ ⟨hk.new rfl, ⟨hg.1, fun h => by rw [upd_ne (by decide)] at h; simpa using hg.2 h⟩⟩
            · intro u done' W' hd hanc hclo hR
              have hk := hR.1
              have e3 := hk.get 3 rfl (hanc 3 (mem_of (by kernel_rfl)))
              have e6 := hk.get 6 rfl (hanc 6 (mem_of (by kernel_rfl)))
              with_reducible refine op_meetIn 3 false e3 ?_ ?_ ?_ ?_
              · decide
              · rfl
              · rfl
              refine op_in (ro := some L) ?_ ?_
              · intro c h; cases h
              intro K hK
              have hg := hR.2
              have c_y0 := (hg.1.cell (lt_cell y0)).trans y0
              simp only [fillL, List.setIfInBounds_toArray, List.set_cons_zero, List.set_cons_succ, Nat.zero_add, Nat.reduceAdd, e3, e6] at hK ⊢
              go_simp
              exact hK _ _ ⟨hk.new rfl, ⟨hg.1, fun h => by rw [upd_ne (by decide)] at h; simpa using hg.2 h⟩⟩
            · intro u done' W' hd hanc hclo hR
              have hk := hR.1
              have e3 := hk.get 3 rfl (hanc 3 (mem_of (by kernel_rfl)))
              have e5 := hk.get 5 rfl (hanc 5 (mem_of (by kernel_rfl)))
              have e7 := hk.get 7 rfl (hanc 7 (mem_of (by kernel_rfl)))
              with_reducible refine op_meetIn 3 false e3 ?_ ?_ ?_ ?_
              · decide
              · rfl
              · rfl
              refine op_in (ro := some L) ?_ ?_
              · intro c h; cases h
              intro K hK
              have hg := hR.2
              have HCON := Lib.hid (compare_any (r.steps + 1) p.steps W')
              simp only [fillL, List.setIfInBounds_toArray, List.set_cons_zero, List.set_cons_succ, Nat.zero_add, Nat.reduceAdd, e3, e5, e7] at hK ⊢
              go_simp
              refine HCON.out.mono ?_
              rintro e w5 ⟨rfl, rfl⟩
              exact hK _ _ ⟨hk.new rfl, ⟨hg.1, fun h => by rw [upd_ne (by decide)] at h; simpa using hg.2 h⟩⟩
            · intro u done' W' hd hanc hclo hR
              have hk := hR.1
              have e3 := hk.get 3 rfl (hanc 3 (mem_of (by kernel_rfl)))
              with_reducible refine op_meetIn 3 false e3 ?_ ?_ ?_ ?_
              · decide
              · rfl
              · rfl
              refine op_in (ro := some L) ?_ ?_
              · intro c h; cases h
              intro K hK
              have hg := hR.2
              simp only [fillL, List.setIfInBounds_toArray, List.set_cons_zero, List.set_cons_succ, Nat.zero_add, Nat.reduceAdd, e3] at hK ⊢
              go_simp
              exact hK _ _ ⟨hk.new rfl, ⟨hg.1, fun h => by rw [upd_ne (by decide)] at h; simpa using hg.2 h⟩⟩
            · intro u done' W' hd hanc hclo hR
              have hk := hR.1
              have e3 := hk.get 3 rfl (hanc 3 (mem_of (by kernel_rfl)))
              have e9 := hk.get 9 rfl (hanc 9 (mem_of (by kernel_rfl)))
              with_reducible refine op_meetIn 3 false e3 ?_ ?_ ?_ ?_
              · decide
              · rfl
              · rfl
              refine op_in (ro := some L) ?_ ?_
              · intro c h; cases h
              intro K hK
              have hg := hR.2
              have c_x1 := (hg.1.cell (lt_cell x1)).trans x1
              simp only [fillL, List.setIfInBounds_toArray, List.set_cons_zero, List.set_cons_succ, Nat.zero_add, Nat.reduceAdd, e3, e9] at hK ⊢
              go_simp
              exact hK _ _ ⟨hk.new rfl, ⟨hg.1, fun h => by rw [upd_ne (by decide)] at h; simpa using hg.2 h⟩⟩
            · intro u done' W' hd hanc hclo hR
              have hk := hR.1
              have e3 := hk.get 3 rfl (hanc 3 (mem_of (by kernel_rfl)))
              with_reducible refine op_meetIn 3 false e3 ?_ ?_ ?_ ?_
              · decide
              · rfl
              · rfl
              refine op_in (ro := some L) ?_ ?_
              · intro c h; cases h
              intro K hK
              have hg := hR.2
              simp only [fillL, List.setIfInBounds_toArray, List.set_cons_zero, List.set_cons_succ, Nat.zero_add, Nat.reduceAdd, e3] at hK ⊢
              go_simp
              exact hK _ _ ⟨hk.new rfl, ⟨hg.1, fun h => by rw [upd_ne (by decide)] at h; simpa using hg.2 h⟩⟩
            · intro u done' W' hd hanc hclo hR
              have hk := hR.1
              have e3 := hk.get 3 rfl (hanc 3 (mem_of (by kernel_rfl)))
              have e11 := hk.get 11 rfl (hanc 11 (mem_of (by kernel_rfl)))
              with_reducible refine op_meetIn 3 false e3 ?_ ?_ ?_ ?_
              · decide
              · rfl
              · rfl
              refine op_in (ro := some L) ?_ ?_
              · intro c h; cases h
              intro K hK
              have hg := hR.2
              have c_y1 := (hg.1.cell (lt_cell y1)).trans y1
              simp only [fillL, List.setIfInBounds_toArray, List.set_cons_zero, List.set_cons_succ, Nat.zero_add, Nat.reduceAdd, e3, e11] at hK ⊢
              go_simp
              exact hK _ _ ⟨hk.new rfl, ⟨hg.1, fun h => by rw [upd_ne (by decide)] at h; simpa using hg.2 h⟩⟩
            · intro u done' W' hd hanc hclo hR
              have hk := hR.1
              have e3 := hk.get 3 rfl (hanc 3 (mem_of (by kernel_rfl)))
              have e10 := hk.get 10 rfl (hanc 10 (mem_of (by kernel_rfl)))
              have e12 := hk.get 12 rfl (hanc 12 (mem_of (by kernel_rfl)))
              with_reducible refine op_meetIn 3 false e3 ?_ ?_ ?_ ?_
              · decide
              · rfl
              · rfl
              refine op_in (ro := some L) ?_ ?_
              · intro c h; cases h
              intro K hK
              have hg := hR.2
              have HCON := Lib.hid (compare_any (r.time + dur q.f.times s x) p.time W')
              simp only [fillL, List.setIfInBounds_toArray, List.set_cons_zero, List.set_cons_succ, Nat.zero_add, Nat.reduceAdd, e3, e10, e12] at hK ⊢
              go_simp
              refine HCON.out.mono ?_
              rintro e w5 ⟨rfl, rfl⟩
              exact hK _ _ ⟨hk.new rfl, ⟨hg.1, fun h => by rw [upd_ne (by decide)] at h; simpa using hg.2 h⟩⟩
            · intro u done' W' hd hanc hclo hR
              have hk := hR.1
              have e3 := hk.get 3 rfl (hanc 3 (mem_of (by kernel_rfl)))
              have e8 := hk.get 8 rfl (hanc 8 (mem_of (by kernel_rfl)))
              have e13 := hk.get 13 rfl (hanc 13 (mem_of (by kernel_rfl)))
              with_reducible refine op_meetIn 3 false e3 ?_ ?_ ?_ ?_
              · decide
              · rfl
              · rfl
              refine op_in (ro := some L) ?_ ?_
              · intro c h; cases h
              intro K hK
              have hg := hR.2
              simp only [fillL, List.setIfInBounds_toArray, List.set_cons_zero, List.set_cons_succ, Nat.zero_add, Nat.reduceAdd, e3, e8, e13] at hK ⊢
              go_simp
              exact hK _ _ ⟨hk.skip rfl, ⟨hg.1.allocR _, fun _ => ⟨_, by simp, cell_new rfl, cell_new rfl⟩⟩⟩
            · intro u done' W' hd hanc hclo hR
              have hk := hR.1
              have e3 := hk.get 3 rfl (hanc 3 (mem_of (by kernel_rfl)))
              with_reducible refine op_meetIn 3 false e3 ?_ ?_ ?_ ?_
              · decide
              · rfl
              · rfl
              refine op_in (ro := some L) ?_ ?_
              · intro c h; cases h
              intro K hK
              have hg := hR.2
              obtain ⟨gg, e14, t0, t1⟩ := hg.2 (hanc 14 (mem_of (by kernel_rfl)))
              have HCON := Lib.hid (or_any ⟨gg, 0, none⟩ 2 (cmpI (r.steps + 1) p.steps) (cmpI (r.time + dur q.f.times s x) p.time) W' t0 t1)
              simp only [fillL, List.setIfInBounds_toArray, List.set_cons_zero, List.set_cons_succ, Nat.zero_add, Nat.reduceAdd, e3, e14] at hK ⊢
              go_simp
              refine HCON.out.mono ?_
              rintro e w5 ⟨rfl, rfl⟩
              exact hK _ _ ⟨hk.new rfl, ⟨hg.1, fun _ => ⟨gg, by simp, t0, t1⟩⟩⟩
            · intro u done' W' hd hanc hclo hR
              have hk := hR.1
              have e3 := hk.get 3 rfl (hanc 3 (mem_of (by kernel_rfl)))
              have e15 := hk.get 15 rfl (hanc 15 (mem_of (by kernel_rfl)))
              with_reducible refine op_meetIn 3 false e3 ?_ ?_ ?_ ?_
              · decide
              · rfl
              · rfl
              refine op_in (ro := some L) ?_ ?_
              · intro c h; cases h
              intro K hK
              have hg := hR.2
              simp only [fillL, List.setIfInBounds_toArray, List.set_cons_zero, List.set_cons_succ, Nat.zero_add, Nat.reduceAdd, e3, e15] at hK ⊢
              go_simp
              exact hK _ _ ⟨hk.new rfl, ⟨hg.1, fun h => by rw [upd_ne (by decide)] at h; simpa using hg.2 h⟩⟩
            · rintro u done' W' hd hanc hclo ⟨hk, hg⟩
              have e3 := hk.get 3 rfl (hanc 3 (mem_of (by kernel_rfl)))
              have e16 := hk.get 16 rfl (hanc 16 (mem_of (by kernel_rfl)))
              refine op_plain (ro := some L) rfl (fun c h => by cases h) fun K hK => ?_
              simp only [fillL, List.setIfInBounds_toArray, List.set_cons_zero, List.set_cons_succ, Nat.zero_add, Nat.reduceAdd, e3, e16] at hK ⊢
              go_simp
              exact hK _ _ ⟨hk.new rfl, ⟨hg.1, fun h => by rw [upd_ne (by decide)] at h; simpa using hg.2 h⟩⟩
            · rintro u W' ⟨done', hdn, hk, hg⟩
              have e0 := hk.get 0 rfl (hdn 0 (by decide))
              have e1 := hk.get 1 rfl (hdn 1 (by decide))
              have e2 := hk.get 2 rfl (hdn 2 (by decide))
              have e3 := hk.get 3 rfl (hdn 3 (by decide))
              have e17 := hk.get 17 rfl (hdn 17 (by decide))
              simp only [fillL, List.setIfInBounds_toArray, List.set_cons_zero, List.set_cons_succ, Nat.zero_add, Nat.reduceAdd, e0, e1, e2, e3, e17]
              cases hless : decide (orI (cmpI (r.steps + 1) p.steps) (cmpI (r.time + dur q.f.times s x) p.time) < 0) with
              | true =>
                have hX5 := hX4.gr hg.1
                have hl5 := hl8.gr hg.1
                have hB5 := hB4.gr hn hg.1
                have hx5 := hx4.gr hg.1
                have hO05 := hO04.thenGr hg.1
                have HFV : Hid (foldV q s (pre ++ [x]) = r.via q.f.times s x) := Lib.hid (by rw [hfo.out, if_pos his, if_pos (by rw [hpi]; exact hless)])
                clear hX4 hl8 hB4 hx4 hO04 hfo x0 x1 y0 y1 y3
                have x0 := hX5.at 0 rfl
                have x1 := hX5.at 1 rfl
                have x2 := hX5.at 2 rfl
                have x3 := hX5.at 3 rfl
                have xf := hX5.fr 2 rfl
                have y0 := hl5.at 0 rfl
                have y1 := hl5.at 1 rfl
                have y2 := hl5.at 2 rfl
                have y3 := hl5.at 3 rfl
                have z0 := hl5.fr 0 rfl
                have z1 := hl5.fr 1 rfl
                have z2 := hl5.fr 2 rfl
                have z3 := hl5.fr 3 rfl
                have hnb : b8 < bx := by
                  have l1 := hn.i4
                  obtain ⟨_, e, l2, _⟩ := hx2.at (j := 0) (by have := H.ok.n1; have := H.nt; omega)
                  cases e
                  have := HBX.out
                  omega
                have hne : bx ≠ b8 := by omega
                have hne2 : b8 ≠ bx := by omega
                gi_wp2_with fail
                have hG6 : Gr w2 (W'.setCell ⟨bx, 2, none⟩ (.slice (some ad) q.n cx)) := (hg4.trans hg.1).setCell (by rw [HBX.out]; exact Nat.le_refl _) _
                exact best_set hn (hB2.gr hn hG6) (hO02.thenGr hG6) (hx2.gr hG6) (hx23.gr hG6) hax H HFV.out (hl5.only (S := fun b => b = bx) (Only.setCell (S := fun b => b = bx) (Only.refl _ _) (p := ⟨bx, 2, none⟩) (.inl rfl) _) (fun p hp => by rw [restL_blocks p hp]; exact hne2))
              | false =>
                gi_wp2_with fail
                have hX5 := hX4.gr hg.1
                have hl5 := hl8.gr hg.1
                have hB5 := hB4.gr hn hg.1
                have hx5 := hx4.gr hg.1
                have hO05 := hO04.thenGr hg.1
                exact ⟨hO05, hB5.same (by rw [hfo.out, if_pos his, HPP.out, if_neg (fun h => by rw [hpi] at h; have h2 : decide (orI (cmpI (r.steps + 1) p.steps) (cmpI (r.time + dur q.f.times s x) p.time) < 0) = true := h; rw [hless] at h2; cases h2)])⟩
end
section
open Go.RowKit

theorem calls_marks {P : Program} {f : FuncId} {fn : Func} {c : Code} {args : Array Value} {w : World} {R : Ending → World → Prop} (hf : P.funcs[f]? = some fn) (hb : fn.body = some c)
    (h : c.wp P (bodyPostM Fence.wide 0 P fn R) { tmps := args ++ Array.replicate (fn.ntmps - args.size) undef, defers := [] } w) : Calls P f args w R :=
  callsIn_wide.1 (callsIn_of_wp_marks (F := Fence.wide) (n := 0) hf hb trivial ((wpIn_wide (n := 0)).2 h))
theorem marks_ret0 {P : Program} {fn : Func} {R : Ending → World → Prop} {a : Act} {w : World} {v : Value} (hr : (results fn a.tmps).run P w = .ok v w) (hd : a.defers = []) (hR : R (.returned v) w) : bodyPostM Fence.wide 0 P fn R .ret a w := by
  show LeavesInM _ _ _ _ _ _ a.defers _ _
  rw [hd]
  exact ⟨v, hr, hR⟩
theorem marks_ret1 {P : Program} {fn : Func} {R : Ending → World → Prop} {a : Act} {w : World} {v : Value} {D : Nat} (hd : a.defers = [{ target := .collected D, args := #[] }]) (hD : w.heap[D]? = some (.deferred (some [])))
    (hr : (results fn a.tmps).run P (w.putObj D (.deferred none)) = .ok v (w.putObj D (.deferred none))) (hR : R (.returned v) (w.putObj D (.deferred none))) : bodyPostM Fence.wide 0 P fn R .ret a w := by
  show LeavesInM _ _ _ _ _ _ a.defers _ _
  rw [hd]
  exact ⟨by simp, .inl ⟨_, _, rfl, run_takeDeferred hD, v, hr, hR⟩⟩
end
end Go.Proofs.Ytlilojpnhmfnaaa
