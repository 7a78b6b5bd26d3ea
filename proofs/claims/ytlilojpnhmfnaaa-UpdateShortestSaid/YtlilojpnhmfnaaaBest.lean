/- Plain words for the planner: the best rest of a plan from a state. No program in sight. -/
import Derived.Test.YtlilojpnhmfnaaaKey
import Derived.Test.YtlilojpnhmfnaaaNext
namespace Go.Proofs.Ytlilojpnhmfnaaa

/-- what is left of a plan -/
structure Rs where
  steps : Int
  time : Int
  nxt : List Int
  is : Bool
def Rs.no : Rs := ⟨0, 0, [], false⟩
def Rs.fin : Rs := ⟨0, 0, [], true⟩
def rsLess (a b : Rs) : Bool := decide (orI (cmpI a.steps b.steps) (cmpI a.time b.time) < 0)
def Rs.via (T : List (List Int)) (s s' : List Int) (x : Rs) : Rs := ⟨x.steps + 1, x.time + dur T s s', s', true⟩

def bestStep (T : List (List Int)) (bu : Int) (s : List Int) (rec : List Int → Rs) (best : Rs) (s' : List Int) : Rs :=
  if stepsB T s s' bu then (if (rec s').is then (if !best.is || rsLess ((rec s').via T s s') best then (rec s').via T s s' else best) else best) else best

def bestF (f : Fl) (to : List Int) (bu : Int) : Nat → List Int → Rs
  | 0, s => if s = to then Rs.fin else Rs.no
  | k + 1, s => if s = to then Rs.fin else if aboveV to s then (enum f s to s.length []).foldl (bestStep f.times bu s (bestF f to bu k)) Rs.no else Rs.no

/-- how far a state is from another one -/
def gapTo (s to : List Int) : Nat → Nat
  | 0 => 0
  | k + 1 => gapTo s to k + (to[k]?.getD 0 - s[k]?.getD 0).toNat
def gap (s to : List Int) : Nat := gapTo s to to.length
def bestV (f : Fl) (to : List Int) (bu : Int) (s : List Int) : Rs := bestF f to bu (gap s to) s

theorem gapTo_le {s t to : List Int} : ∀ k, (∀ c, c < k → s[c]?.getD 0 ≤ t[c]?.getD 0) → gapTo t to k ≤ gapTo s to k := by
  intro k
  induction k with
  | zero => intro _; simp [gapTo]
  | succ k ih =>
    intro h
    have := ih (fun c hc => h c (by omega))
    have := h k (by omega)
    simp only [gapTo]; omega
theorem gapTo_lt {s t to : List Int} : ∀ k, (∀ c, c < k → s[c]?.getD 0 ≤ t[c]?.getD 0) → (∀ c, c < k → t[c]?.getD 0 ≤ to[c]?.getD 0) → (∃ c, c < k ∧ s[c]?.getD 0 ≠ t[c]?.getD 0) → gapTo t to k < gapTo s to k := by
  intro k
  induction k with
  | zero => rintro _ _ ⟨c, hc, _⟩; omega
  | succ k ih =>
    rintro h h2 ⟨c, hc, hne⟩
    simp only [gapTo]
    have hk := h k (by omega)
    have hk2 := h2 k (by omega)
    by_cases e : c = k
    · subst e
      have := gapTo_le (to := to) c (fun c' hc' => h c' (by omega))
      omega
    · have := ih (fun c hc => h c (by omega)) (fun c hc => h2 c (by omega)) ⟨c, by omega, hne⟩
      omega

/-- between two states -/
structure Btw (lo hi s : List Int) : Prop where
  len : s.length = lo.length
  ge : ∀ c, c < lo.length → lo[c]?.getD 0 ≤ s[c]?.getD 0
  le : ∀ c, c < lo.length → s[c]?.getD 0 ≤ hi[c]?.getD 0

theorem enum_btw {f : Fl} {lo hi : List Int} : ∀ (k : Nat) (pre s : List Int), pre.length + k = lo.length → s ∈ enum f lo hi k pre →
    s.length = lo.length ∧ worksB f s = true ∧ (∀ c, c < pre.length → s[c]?.getD 0 = pre[c]?.getD 0) ∧ ∀ c, pre.length ≤ c → c < lo.length → lo[c]?.getD 0 ≤ s[c]?.getD 0 ∧ s[c]?.getD 0 ≤ hi[c]?.getD 0 := by
  intro k
  induction k with
  | zero =>
    intro pre s hl hs
    simp only [enum] at hs
    split at hs
    · simp at hs; subst hs; exact ⟨by omega, by assumption, fun _ _ => rfl, fun c h1 h2 => by omega⟩
    · simp at hs
  | succ k ih =>
    intro pre s hl hs
    simp only [enum, List.mem_flatMap, List.mem_range] at hs
    obtain ⟨i, hi, hs⟩ := hs
    obtain ⟨h1, h2, h3, h4⟩ := ih _ s (by simp; omega) hs
    refine ⟨h1, h2, fun c hc => ?_, fun c hc hlt => ?_⟩
    · rw [h3 c (by simp; omega), List.getElem?_append_left hc]
    · by_cases e : c = pre.length
      · subst e
        rw [h3 _ (by simp)]
        simp
        omega
      · exact h4 c (by simp; omega) hlt
theorem enum_between {f : Fl} {lo hi s : List Int} (hs : s ∈ enum f lo hi lo.length []) : Btw lo hi s ∧ worksB f s = true := by
  obtain ⟨h1, h2, _, h4⟩ := enum_btw lo.length [] s (by simp) hs
  exact ⟨⟨h1, fun c hc => (h4 c (by simp) hc).1, fun c hc => (h4 c (by simp) hc).2⟩, h2⟩

theorem stepsB_true {T : List (List Int)} {s t : List Int} {bu : Int} (h : stepsB T s t bu = true) : aboveV t s = true ∧ s ≠ t ∧ dur T s t ≤ bu := by
  simp only [stepsB, Bool.and_eq_true, Bool.not_eq_true', decide_eq_true_eq, decide_eq_false_iff_not] at h
  exact ⟨h.1.1, h.1.2, h.2⟩

theorem ne_at {s t : List Int} (hl : s.length = t.length) (h : s ≠ t) : ∃ c, c < s.length ∧ s[c]?.getD 0 ≠ t[c]?.getD 0 := by
  by_cases hex : ∃ c, c < s.length ∧ s[c]?.getD 0 ≠ t[c]?.getD 0
  · exact hex
  · exact absurd ((eqUpto_iff hl).1 (fun j hj => Classical.byContradiction fun hne => hex ⟨j, hj, hne⟩)) h

theorem gap_lt {s t to : List Int} {hl : s.length = to.length} (h : Btw s to t) (hne : s ≠ t) : gap t to < gap s to :=
  gapTo_lt to.length (fun c hc => h.ge c (by omega)) (fun c hc => h.le c (by omega)) (by rw [← hl]; exact ne_at h.len.symm hne)

theorem foldl_congr {α β : Type} {g h : β → α → β} : ∀ (l : List α) (b : β), (∀ x ∈ l, ∀ b, g b x = h b x) → l.foldl g b = l.foldl h b := by
  intro l
  induction l with
  | nil => intro b _; rfl
  | cons x l ih =>
    intro b hx
    simp only [List.foldl_cons]
    rw [hx x (by simp), ih _ (fun y hy => hx y (by simp [hy]))]

theorem bestStep_congr {T : List (List Int)} {bu : Int} {s s' : List Int} {r r' : List Int → Rs} (h : stepsB T s s' bu = true → r s' = r' s') (b : Rs) : bestStep T bu s r b s' = bestStep T bu s r' b s' := by
  unfold bestStep
  cases hb : stepsB T s s' bu with
  | false => simp
  | true => rw [h hb]

theorem above_gap_zero {s to : List Int} (hl : s.length = to.length) (ha : aboveV to s = true) (hg : gap s to = 0) : s = to := by
  have hle := aboveV_le ha
  have hz : ∀ k, k ≤ to.length → gapTo s to k = 0 → ∀ c, c < k → s[c]?.getD 0 = to[c]?.getD 0 := by
    intro k
    induction k with
    | zero => intro _ _ c hc; omega
    | succ k ih =>
      intro hk h0 c hc
      simp only [gapTo] at h0
      by_cases e : c = k
      · subst e; have := hle c (by omega); omega
      · exact ih (by omega) (by omega) c (by omega)
  exact (eqUpto_iff hl).1 (fun j hj => hz to.length (Nat.le_refl _) hg j (by omega))

theorem bestF_fuel {f : Fl} {to : List Int} {bu : Int} : ∀ (k k' : Nat) (s : List Int), s.length = to.length → gap s to ≤ k → gap s to ≤ k' → bestF f to bu k s = bestF f to bu k' s := by
  intro k
  induction k with
  | zero =>
    intro k' s hl h0 _
    cases k' with
    | zero => rfl
    | succ k' =>
      simp only [bestF]
      by_cases hs : s = to
      · simp [hs]
      · simp only [hs, if_false]
        rw [if_neg]
        intro ha
        exact hs (above_gap_zero hl ha (by omega))
  | succ k ih =>
    intro k' s hl h0 h1
    cases k' with
    | zero =>
      simp only [bestF]
      by_cases hs : s = to
      · simp [hs]
      · simp only [hs, if_false]
        rw [if_neg]
        intro ha
        exact hs (above_gap_zero hl ha (by omega))
    | succ k' =>
      simp only [bestF]
      by_cases hs : s = to
      · simp [hs]
      · simp only [hs, if_false]
        split
        · refine foldl_congr _ _ (fun x hx b => bestStep_congr (fun hst => ?_) b)
          have hb := (enum_between hx).1
          have hlt := gap_lt (hl := hl) hb (stepsB_true hst).2.1
          exact ih k' x (by rw [hb.len, hl]) (by omega) (by omega)
        · rfl

theorem bestV_eq {f : Fl} {to : List Int} {bu : Int} {s : List Int} (hl : s.length = to.length) :
    bestV f to bu s = if s = to then Rs.fin else if aboveV to s then (enum f s to s.length []).foldl (bestStep f.times bu s (bestV f to bu)) Rs.no else Rs.no := by
  have : bestV f to bu s = bestF f to bu (gap s to + 1) s := bestF_fuel _ _ s hl (Nat.le_refl _) (by omega)
  rw [this]
  simp only [bestF]
  by_cases hs : s = to
  · simp [hs]
  · simp only [hs, if_false]
    split
    · refine foldl_congr _ _ (fun x hx b => bestStep_congr (fun hst => ?_) b)
      have hb := (enum_between hx).1
      have hlt := gap_lt (hl := hl) hb (stepsB_true hst).2.1
      exact bestF_fuel _ _ x (by rw [hb.len, hl]) (by omega) (Nat.le_refl _)
    · rfl

theorem StOk.btw {f : Fl} {lo hi s : List Int} (hlo : StOk f lo) (hhi : StOk f hi) (h : Btw lo hi s) : StOk f s :=
  ⟨by rw [h.len, hlo.len], fun c hc => by
    have h1 := h.ge c (by rw [hlo.len]; exact hc)
    have h2 := h.le c (by rw [hlo.len]; exact hc)
    have := hlo.ver c hc
    have := hhi.ver c hc
    omega⟩

/-- its numbers are bounded -/
structure Rs.Bd (r : Rs) (k : Nat) : Prop where
  s0 : 0 ≤ r.steps
  s1 : r.steps ≤ k
  t0 : 0 ≤ r.time
  t1 : r.time ≤ 60000 * k

theorem bestStep_bd {f : Fl} {bu : Int} {s s' : List Int} {rec : List Int → Rs} {k : Nat} (hok : FlOk f) (hs : StOk f s) (hs' : StOk f s') (hr : stepsB f.times s s' bu = true → (rec s').Bd k) {b : Rs} (hb : b.Bd (k + 1)) : (bestStep f.times bu s rec b s').Bd (k + 1) := by
  unfold bestStep
  cases hst : stepsB f.times s s' bu with
  | false => simpa using hb
  | true =>
    have h := hr hst
    have ha := aboveV_le (stepsB_true hst).1
    have hd := durTo_bd hok (fun c hc => (hs.ver c hc).1) hs' (fun c hc => ha c (by rw [hs'.len]; exact hc)) f.times.length (Nat.le_refl _)
    have hdur : dur f.times s s' = durTo f.times s s' f.times.length := by unfold dur; rw [hs'.len]
    have h6 := hok.n6
    simp only [if_true]
    have := h.s0
    have := h.s1
    have := h.t0
    have := h.t1
    split
    · split
      · exact ⟨by simp only [Rs.via]; omega, by simp only [Rs.via]; omega, by simp only [Rs.via]; omega, by simp only [Rs.via]; omega⟩
      · exact hb
    · exact hb

theorem Rs.Bd.mono {r : Rs} {k k' : Nat} (h : r.Bd k) (hk : k ≤ k') : r.Bd k' := ⟨h.s0, by have := h.s1; omega, h.t0, by have := h.t1; omega⟩

theorem bestF_bd {f : Fl} {to : List Int} {bu : Int} (hok : FlOk f) (hto : StOk f to) : ∀ (k : Nat) (s : List Int), StOk f s → (bestF f to bu k s).Bd k := by
  intro k
  induction k with
  | zero => intro s hs; simp only [bestF]; split <;> exact ⟨by simp [Rs.fin, Rs.no], by simp [Rs.fin, Rs.no], by simp [Rs.fin, Rs.no], by simp [Rs.fin, Rs.no]⟩
  | succ k ih =>
    intro s hs
    simp only [bestF]
    split
    · exact ⟨by simp [Rs.fin], by simp [Rs.fin]; omega, by simp [Rs.fin], by simp [Rs.fin]; omega⟩
    · split
      · have h0 : Rs.no.Bd (k + 1) := ⟨by simp [Rs.no], by simp [Rs.no]; omega, by simp [Rs.no], by simp [Rs.no]; omega⟩
        have : ∀ (l : List (List Int)) (b : Rs), (∀ x ∈ l, StOk f x) → b.Bd (k + 1) → (l.foldl (bestStep f.times bu s (bestF f to bu k)) b).Bd (k + 1) := by
          intro l
          induction l with
          | nil => intro b _ hb; exact hb
          | cons x l ihl =>
            intro b hx hb
            exact ihl _ (fun y hy => hx y (by simp [hy])) (bestStep_bd hok hs (hx x (by simp)) (fun _ => ih x (hx x (by simp))) hb)
        exact this _ _ (fun x hx => hs.btw hto (enum_between hx).1) h0
      · exact ⟨by simp [Rs.no], by simp [Rs.no]; omega, by simp [Rs.no], by simp [Rs.no]; omega⟩

theorem gapTo_bd {f : Fl} {s to : List Int} (hok : FlOk f) (hs : StOk f s) (hto : StOk f to) : ∀ k, k ≤ f.times.length → gapTo s to k ≤ 3 * k := by
  intro k
  induction k with
  | zero => intro _; simp [gapTo]
  | succ k ih =>
    intro hk
    have := ih (by omega)
    have := (hs.ver k (by omega)).1
    have := (hto.ver k (by omega)).2
    have := hok.row k (by omega)
    simp only [gapTo]; omega
theorem bestV_bd {f : Fl} {to : List Int} {bu : Int} (hok : FlOk f) (hto : StOk f to) (s : List Int) (hs : StOk f s) : (bestV f to bu s).Bd 18 :=
  (bestF_bd hok hto _ s hs).mono (by
    have := gapTo_bd hok hs hto to.length (by rw [hto.len]; exact Nat.le_refl _)
    have := hok.n6
    have := hto.len
    unfold gap; omega)
end Go.Proofs.Ytlilojpnhmfnaaa
