/- Plain law: the planner's way is a plan, and no plan is shorter. No program in sight. -/
import Derived.Test.YtlilojpnhmfnaaaLawE
import Derived.Test.YtlilojpnhmfnaaaCpA
namespace Go.Proofs.Ytlilojpnhmfnaaa

def okPlan (f : Fl) (bu : Int) : List Int → List (List Int) → Prop
  | _, [] => True
  | p, s :: r => worksB f s = true ∧ stepsB f.times p s bu = true ∧ okPlan f bu s r
def planTime (T : List (List Int)) : List Int → List (List Int) → Int
  | _, [] => 0
  | p, s :: r => dur T p s + planTime T s r
def lastOf : List Int → List (List Int) → List Int
  | p, [] => p
  | _, s :: r => lastOf s r

theorem cpLoop_ok {f : Fl} {bu : Int} : ∀ (L : List (List Int)) (p : List Int) (i : Int), ((cpLoop f bu p L i).2 = 0 ↔ okPlan f bu p L) := by
  intro L
  induction L with
  | nil => intro p i; simp [cpLoop, okPlan]
  | cons s r ih =>
    intro p i
    simp only [cpLoop, okPlan]
    cases hw : worksB f s with
    | false => simp
    | true =>
      cases hs : stepsB f.times p s bu with
      | false => simp
      | true => simp [ih]

theorem rsLess_iff (a b : Rs) : rsLess a b = true ↔ a.steps < b.steps ∨ (a.steps = b.steps ∧ a.time < b.time) := by
  unfold rsLess orI cmpI
  simp only [decide_eq_true_eq]
  by_cases h1 : a.steps < b.steps
  · simp [h1]
  · by_cases h2 : b.steps < a.steps
    · simp [h1, h2]; omega
    · have : a.steps = b.steps := by omega
      simp [this]
      by_cases h3 : a.time < b.time
      · simp [h3]
      · by_cases h4 : b.time < a.time <;> simp [h3, h4]

def LexLe (a b : Rs) : Prop := a.steps < b.steps ∨ (a.steps = b.steps ∧ a.time ≤ b.time)
theorem LexLe.trans {a b c : Rs} (h : LexLe a b) (k : LexLe b c) : LexLe a c := by unfold LexLe at *; omega
theorem LexLe.refl (a : Rs) : LexLe a a := .inr ⟨rfl, Int.le_refl _⟩

theorem step_min {T : List (List Int)} {bu : Int} {s x : List Int} {rec : List Int → Rs} (b : Rs) : (b.is = true → (bestStep T bu s rec b x).is = true ∧ LexLe (bestStep T bu s rec b x) b) ∧
    (stepsB T s x bu = true → (rec x).is = true → (bestStep T bu s rec b x).is = true ∧ LexLe (bestStep T bu s rec b x) ((rec x).via T s x)) := by
  unfold bestStep
  cases hs : stepsB T s x bu with
  | false => exact ⟨fun h => ⟨h, LexLe.refl _⟩, fun h => by cases h⟩
  | true =>
    cases hr : (rec x).is with
    | false => exact ⟨fun h => ⟨h, LexLe.refl _⟩, fun _ h => by cases h⟩
    | true =>
      simp only [if_true]
      cases hb : b.is with
      | false =>
        simp only [Bool.not_false, Bool.true_or, if_true]
        exact ⟨fun h => (by cases h), fun _ _ => ⟨rfl, LexLe.refl _⟩⟩
      | true =>
        simp only [Bool.not_true, Bool.false_or]
        cases hl : rsLess ((rec x).via T s x) b with
        | true =>
          have := (rsLess_iff _ _).1 hl
          simp only [if_true]
          exact ⟨fun _ => ⟨rfl, by unfold LexLe; omega⟩, fun _ _ => ⟨rfl, LexLe.refl _⟩⟩
        | false =>
          have : ¬ (((rec x).via T s x).steps < b.steps ∨ (((rec x).via T s x).steps = b.steps ∧ ((rec x).via T s x).time < b.time)) := fun h => by rw [(rsLess_iff _ _).2 h] at hl; cases hl
          simp only [Bool.false_eq_true, if_false]
          exact ⟨fun _ => ⟨hb, LexLe.refl _⟩, fun _ _ => ⟨hb, by unfold LexLe; omega⟩⟩

theorem fold_min {T : List (List Int)} {bu : Int} {s : List Int} {rec : List Int → Rs} : ∀ (l : List (List Int)) (b : Rs), (b.is = true → (l.foldl (bestStep T bu s rec) b).is = true ∧ LexLe (l.foldl (bestStep T bu s rec) b) b) ∧
    (∀ x ∈ l, stepsB T s x bu = true → (rec x).is = true → (l.foldl (bestStep T bu s rec) b).is = true ∧ LexLe (l.foldl (bestStep T bu s rec) b) ((rec x).via T s x)) := by
  intro l
  induction l with
  | nil => intro b; exact ⟨fun h => ⟨h, LexLe.refl _⟩, fun x hx => by simp at hx⟩
  | cons y l ih =>
    intro b
    have h1 := step_min (T := T) (bu := bu) (s := s) (x := y) (rec := rec) b
    have h2 := ih (bestStep T bu s rec b y)
    refine ⟨fun hb => ?_, fun x hx hs hr => ?_⟩
    · have := h1.1 hb
      have k := h2.1 this.1
      exact ⟨k.1, k.2.trans this.2⟩
    · rcases List.mem_cons.1 hx with rfl | hx
      · have := h1.2 hs hr
        have k := h2.1 this.1
        exact ⟨k.1, k.2.trans this.2⟩
      · exact h2.2 x hx hs hr

theorem fold_via {T : List (List Int)} {bu : Int} {s : List Int} {rec : List Int → Rs} : ∀ (l : List (List Int)) (b : Rs), l.foldl (bestStep T bu s rec) b = b ∨ ∃ x ∈ l, l.foldl (bestStep T bu s rec) b = (rec x).via T s x := by
  intro l
  induction l with
  | nil => intro b; exact .inl rfl
  | cons y l ih =>
    intro b
    rw [List.foldl_cons]
    rcases ih (bestStep T bu s rec b y) with h | ⟨x, hx, h⟩
    · rw [h]
      unfold bestStep
      split
      · split
        · split
          · exact .inr ⟨y, by simp, rfl⟩
          · exact .inl rfl
        · exact .inl rfl
      · exact .inl rfl
    · exact .inr ⟨x, by simp [hx], h⟩

/-- a rest that is found leads over its next state -/
theorem bestV_via {f : Fl} {to : List Int} {bu : Int} {s : List Int} (hl : s.length = to.length) (hne : s ≠ to) (h : (bestV f to bu s).is = true) :
    bestV f to bu s = (bestV f to bu (bestV f to bu s).nxt).via f.times s (bestV f to bu s).nxt := by
  have he := bestV_eq (f := f) (bu := bu) hl
  rw [if_neg hne] at he
  cases ha : aboveV to s with
  | false => rw [ha] at he; simp at he; rw [he] at h; simp [Rs.no] at h
  | true =>
    rw [ha, if_pos rfl] at he
    rcases fold_via (T := f.times) (bu := bu) (s := s) (rec := bestV f to bu) (enum f s to s.length []) Rs.no with h1 | ⟨x, _, h1⟩
    · rw [he, h1] at h; simp [Rs.no] at h
    · rw [← he] at h1
      have hn : (bestV f to bu s).nxt = x := by rw [h1]; rfl
      rw [hn]
      exact h1

theorem path_ok {f : Fl} {to : List Int} {bu : Int} (hto : StOk f to) : ∀ (k : Nat) (s : List Int), gap s to ≤ k → StOk f s → (bestV f to bu s).is = true →
    okPlan f bu s (pathV f to bu s) ∧ lastOf s (pathV f to bu s) = to ∧ ((pathV f to bu s).length : Int) = (bestV f to bu s).steps ∧ planTime f.times s (pathV f to bu s) = (bestV f to bu s).time ∧ (∀ x ∈ pathV f to bu s, StOk f x) := by
  intro k
  induction k with
  | zero =>
    intro s hk hs hi
    have hl : s.length = to.length := by rw [hs.len, hto.len]
    by_cases he : s = to
    · subst he
      rw [pathV_end]
      refine ⟨trivial, rfl, ?_, ?_, fun x hx => by simp at hx⟩ <;> rw [bestV_eq rfl, if_pos rfl] <;> rfl
    · have := next_gap hl he hi; omega
  | succ k ih =>
    intro s hk hs hi
    have hl : s.length = to.length := by rw [hs.len, hto.len]
    by_cases he : s = to
    · subst he
      rw [pathV_end]
      refine ⟨trivial, rfl, ?_, ?_, fun x hx => by simp at hx⟩ <;> rw [bestV_eq rfl, if_pos rfl] <;> rfl
    · obtain ⟨h1, h2, h3⟩ := bestV_next hl he hi
      have hg := next_gap hl he hi
      have hv := bestV_via hl he hi
      have hbt := enum_between h1
      have hsx := hs.btw hto hbt.1
      rw [pathV_step hl he hi]
      obtain ⟨k1, k2, k3, k4, k5⟩ := ih _ (by omega) hsx h3
      refine ⟨⟨hbt.2, h2, k1⟩, k2, ?_, ?_, fun x hx => ?_⟩
      · rw [hv]; simp only [Rs.via, List.length_cons]; rw [← k3]; omega
      · rw [hv]; simp only [Rs.via, planTime]; rw [k4]; omega
      · rcases List.mem_cons.1 hx with rfl | hx
        · exact hsx
        · exact k5 x hx

theorem aboveV_trans {f : Fl} {a b c : List Int} (ha : StOk f a) (hb : StOk f b) (hc : StOk f c) (h1 : aboveV b a = true) (h2 : aboveV c b = true) : aboveV c a = true := by
  have k1 := aboveV_le h1
  have k2 := aboveV_le h2
  exact aboveV_true rfl (fun j hj => by have := k1 j (by rw [hb.len, ← hc.len]; exact hj); have := k2 j hj; omega)
theorem okPlan_above {f : Fl} {bu : Int} : ∀ (L : List (List Int)) (p : List Int), StOk f p → (∀ x ∈ L, StOk f x) → okPlan f bu p L → aboveV (lastOf p L) p = true := by
  intro L
  induction L with
  | nil => intro p _ _ _; exact aboveV_refl p
  | cons s r ih =>
    intro p hp hL h
    have hs := hL s (by simp)
    have hr := fun x hx => hL x (List.mem_cons_of_mem s hx)
    have h1 := ih s hs hr h.2.2
    have hlast : StOk f (lastOf s r) := by
      have : ∀ (r : List (List Int)) (s : List Int), StOk f s → (∀ x ∈ r, StOk f x) → StOk f (lastOf s r) := by
        intro r
        induction r with
        | nil => intro s hs _; exact hs
        | cons t r ih2 => intro s _ hr; exact ih2 t (hr t (by simp)) (fun x hx => hr x (by simp [hx]))
      exact this r s hs hr
    exact aboveV_trans hp hs hlast (stepsB_true h.2.1).1 h1

theorem best_min {f : Fl} {to : List Int} {bu : Int} (hok : FlOk f) (hto : StOk f to) : ∀ (L : List (List Int)) (s : List Int), StOk f s → (∀ x ∈ L, StOk f x) → okPlan f bu s L → lastOf s L = to →
    (bestV f to bu s).is = true ∧ ((bestV f to bu s).steps < L.length ∨ ((bestV f to bu s).steps = L.length ∧ (bestV f to bu s).time ≤ planTime f.times s L)) := by
  intro L
  induction L with
  | nil =>
    intro s _ _ _ hl
    have : s = to := hl
    subst this
    rw [bestV_eq rfl, if_pos rfl]
    exact ⟨rfl, .inr ⟨rfl, Int.le_refl _⟩⟩
  | cons x r ih =>
    intro s hs hL h hlast
    have hx := hL x (by simp)
    have hr := fun y hy => hL y (List.mem_cons_of_mem x hy)
    obtain ⟨i1, i2⟩ := ih x hx hr h.2.2 hlast
    obtain ⟨ha, hne, hd⟩ := stepsB_true h.2.1
    have hax : aboveV to x = true := by have := okPlan_above r x hx hr h.2.2; rw [show lastOf x r = to from hlast] at this; exact this
    have hl : s.length = to.length := by rw [hs.len, hto.len]
    have hasto := aboveV_trans hs hx hto ha hax
    have hbt : Btw s to x := ⟨by rw [hx.len, hs.len], fun c hc => aboveV_le ha c (by rw [hx.len, ← hs.len]; exact hc), fun c hc => aboveV_le hax c (by omega)⟩
    have hst : s ≠ to := fun e => by
      subst e
      have h1 := aboveV_le ha
      have h2 := aboveV_le hax
      exact hne ((eqUpto_iff (by rw [hs.len, hx.len])).1 (fun j hj => by
        have a1 := h1 j (by rw [hx.len, ← hs.len]; exact hj)
        have a2 := h2 j hj
        omega))
    have hmem := enum_has h.1 hbt
    have hfm := (fold_min (T := f.times) (bu := bu) (s := s) (rec := bestV f to bu) (enum f s to s.length []) Rs.no).2 x hmem h.2.1 i1
    have he := bestV_eq (f := f) (bu := bu) hl
    rw [if_neg hst, hasto, if_pos rfl] at he
    rw [← he] at hfm
    refine ⟨hfm.1, ?_⟩
    have h2 := hfm.2
    unfold LexLe Rs.via at h2
    simp only [List.length_cons, planTime] at *
    omega
end Go.Proofs.Ytlilojpnhmfnaaa
