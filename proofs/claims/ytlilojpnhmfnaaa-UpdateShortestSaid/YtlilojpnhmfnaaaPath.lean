/- Plain words: the way that the planner's rests lead. No program in sight. -/
import Derived.Test.YtlilojpnhmfnaaaBest
namespace Go.Proofs.Ytlilojpnhmfnaaa

theorem fold_is {T : List (List Int)} {bu : Int} {s : List Int} {rec : List Int → Rs} : ∀ (l : List (List Int)) (b : Rs) (L : List (List Int)), (∀ x ∈ l, x ∈ L) → (b.is = true → b.nxt ∈ L ∧ stepsB T s b.nxt bu = true ∧ (rec b.nxt).is = true) →
    (l.foldl (bestStep T bu s rec) b).is = true → (l.foldl (bestStep T bu s rec) b).nxt ∈ L ∧ stepsB T s (l.foldl (bestStep T bu s rec) b).nxt bu = true ∧ (rec (l.foldl (bestStep T bu s rec) b).nxt).is = true := by
  intro l
  induction l with
  | nil => intro b L _ hb h; exact hb h
  | cons x l ih =>
    intro b L hl hb h
    refine ih _ L (fun y hy => hl y (by simp [hy])) (fun hi => ?_) h
    unfold bestStep at hi ⊢
    cases hs : stepsB T s x bu with
    | false => simp only [hs] at hi ⊢; exact hb (by simpa using hi)
    | true =>
      simp only [hs, if_true] at hi ⊢
      cases hr : (rec x).is with
      | false => simp only [hr] at hi ⊢; exact hb (by simpa using hi)
      | true =>
        simp only [hr, if_true] at hi ⊢
        split
        · exact ⟨hl x (by simp), hs, hr⟩
        · rename_i hc
          rw [if_neg hc] at hi
          exact hb hi

theorem bestV_next {f : Fl} {to : List Int} {bu : Int} {s : List Int} (hl : s.length = to.length) (hne : s ≠ to) (h : (bestV f to bu s).is = true) :
    (bestV f to bu s).nxt ∈ enum f s to s.length [] ∧ stepsB f.times s (bestV f to bu s).nxt bu = true ∧ (bestV f to bu (bestV f to bu s).nxt).is = true := by
  have he := bestV_eq (f := f) (bu := bu) hl
  rw [if_neg hne] at he
  cases ha : aboveV to s with
  | false => rw [ha] at he; simp at he; rw [he] at h; simp [Rs.no] at h
  | true =>
    rw [ha, if_pos rfl] at he
    rw [he] at h ⊢
    exact fold_is (L := enum f s to s.length []) _ Rs.no (fun _ hx => hx) (fun h => by simp [Rs.no] at h) h

def pathF (f : Fl) (to : List Int) (bu : Int) : Nat → List Int → List (List Int)
  | 0, _ => []
  | k + 1, s => if s = to then [] else (bestV f to bu s).nxt :: pathF f to bu k (bestV f to bu s).nxt
/-- the states of the plan from s on -/
def pathV (f : Fl) (to : List Int) (bu : Int) (s : List Int) : List (List Int) := pathF f to bu (gap s to) s

theorem next_gap {f : Fl} {to : List Int} {bu : Int} {s : List Int} (hl : s.length = to.length) (hne : s ≠ to) (h : (bestV f to bu s).is = true) : gap (bestV f to bu s).nxt to < gap s to ∧ (bestV f to bu s).nxt.length = to.length := by
  obtain ⟨h1, h2, _⟩ := bestV_next hl hne h
  have hb := (enum_between h1).1
  exact ⟨gap_lt (hl := hl) hb (stepsB_true h2).2.1, by rw [hb.len, hl]⟩

theorem pathF_fuel {f : Fl} {to : List Int} {bu : Int} : ∀ (k k' : Nat) (s : List Int), s.length = to.length → (bestV f to bu s).is = true → gap s to ≤ k → gap s to ≤ k' → pathF f to bu k s = pathF f to bu k' s := by
  intro k
  induction k with
  | zero =>
    intro k' s hl hi h0 _
    cases k' with
    | zero => rfl
    | succ k' =>
      simp only [pathF]
      by_cases hs : s = to
      · simp [hs]
      · have := next_gap hl hs hi; omega
  | succ k ih =>
    intro k' s hl hi h0 h1
    by_cases hs : s = to
    · cases k' <;> simp [pathF, hs]
    · have hg := next_gap hl hs hi
      cases k' with
      | zero => omega
      | succ k' =>
        simp only [pathF, if_neg hs]
        rw [ih k' _ hg.2 (bestV_next hl hs hi).2.2 (by omega) (by omega)]

theorem pathV_end (f : Fl) (to : List Int) (bu : Int) : pathV f to bu to = [] := by
  unfold pathV; cases gap to to <;> simp [pathF]
theorem pathV_step {f : Fl} {to : List Int} {bu : Int} {s : List Int} (hl : s.length = to.length) (hne : s ≠ to) (h : (bestV f to bu s).is = true) : pathV f to bu s = (bestV f to bu s).nxt :: pathV f to bu (bestV f to bu s).nxt := by
  have hg := next_gap hl hne h
  unfold pathV
  cases hk : gap s to with
  | zero => omega
  | succ k =>
    rw [hk] at hg
    simp only [pathF, if_neg hne]
    rw [pathF_fuel k (gap (bestV f to bu s).nxt to) _ hg.2 (bestV_next hl hne h).2.2 (by omega) (Nat.le_refl _)]

theorem pathF_len (f : Fl) (to : List Int) (bu : Int) : ∀ k s, (pathF f to bu k s).length ≤ k := by
  intro k
  induction k with
  | zero => intro s; simp [pathF]
  | succ k ih => intro s; simp only [pathF]; split <;> simp; exact ih _

/-- what Plan returns: the plan, and the error -/
def planE (f : Fl) (a b : List Int) (bu : Int) : Int := if plannedE f a b bu = 0 then (if (bestV f b bu a).is then 0 else 112) else plannedE f a b bu
def planV (f : Fl) (a b : List Int) (bu : Int) : List (List Int) := if planE f a b bu = 0 then pathV f b bu a else []
end Go.Proofs.Ytlilojpnhmfnaaa
