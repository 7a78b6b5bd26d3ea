/- Plain law: what UpdateShortest asks of the planner's way and of any other plan. No program in sight. -/
import Derived.Test.YtlilojpnhmfnaaaTimes
import Derived.Test.YtlilojpnhmfnaaaCpB
namespace Go.Proofs.Ytlilojpnhmfnaaa

theorem StOk.b {f : Fl} {s : List Int} (h : StOk f s) : stB f.times s = true := by
  refine stB_true h.len fun c hc => ?_
  have hc' : c < f.times.length := by rw [← h.len]; exact hc
  have := h.ver c hc'
  simp only [verB, Bool.and_eq_true, decide_eq_true_eq, Int.toNat_natCast]
  omega

theorem cpR_pl {f : Fl} {xs : List Int} {L : List (List Int)} {bu : Int} (h : (cpR f xs L bu).2 = 0) : PlOk f bu xs L := by
  unfold cpR at h
  by_cases hp : cpPre f xs L bu = 0
  · rw [if_pos hp] at h
    have hp2 := hp
    unfold cpPre at hp
    by_cases hc : chkE f = 0
    · rw [if_pos hc] at hp
      by_cases h64 : 64 < L.length
      · rw [if_pos h64] at hp; omega
      · rw [if_neg h64] at hp
        obtain ⟨h1, h2, h3⟩ := beginE_all hp
        cases hw : worksB f xs with
        | false => rw [hw] at h; simp at h
        | true =>
          rw [hw, if_pos rfl] at h
          exact ⟨h1, h2, h3, (cpLoop_ok L xs 0).1 h, by omega⟩
    · rw [if_neg hc] at hp; exact absurd hp hc
  · rw [if_neg hp] at h; exact absurd h hp

theorem path_len {f : Fl} {to : List Int} {bu : Int} (hto : StOk f to) : ∀ (k : Nat) (s : List Int), gap s to ≤ k → StOk f s → (bestV f to bu s).is = true → (pathV f to bu s).length ≤ k := by
  intro k
  induction k with
  | zero =>
    intro s hk hs hi
    have hl : s.length = to.length := by rw [hs.len, hto.len]
    by_cases he : s = to
    · subst he; rw [pathV_end]; simp
    · have := next_gap hl he hi; omega
  | succ k ih =>
    intro s hk hs hi
    have hl : s.length = to.length := by rw [hs.len, hto.len]
    by_cases he : s = to
    · subst he; rw [pathV_end]; simp
    · obtain ⟨h1, h2, h3⟩ := bestV_next hl he hi
      have hg := next_gap hl he hi
      rw [pathV_step hl he hi]
      have := ih _ (by omega) (hs.btw hto (enum_between h1).1) h3
      simp; omega

theorem pl_at {f : Fl} {L : List (List Int)} (h : ∀ x ∈ L, StOk f x) : ∀ j, j < L.length → StOk f (L[j]?.getD []) := fun j hj => by
  have : L[j]?.getD [] = L[j] := by simp [hj]
  rw [this]; exact h _ (List.getElem_mem hj)
theorem pl_mem {f : Fl} {L : List (List Int)} (h : ∀ j, j < L.length → StOk f (L[j]?.getD [])) : ∀ x ∈ L, StOk f x := fun x hx => by
  obtain ⟨j, hj, rfl⟩ := List.getElem_of_mem hx
  have := h j hj
  simpa [hj] using this

/-- the planner's way holds, arrives, and passes CheckPlan -/
theorem planV_holds {f : Fl} {xs ys : List Int} {bu : Int} (h : planE f xs ys bu = 0) : PlOk f bu xs (planV f xs ys bu) ∧ lastOf xs (planV f xs ys bu) = ys ∧ (cpR f xs (planV f xs ys bu) bu).2 = 0 ∧
    ((planV f xs ys bu).length : Int) = (bestV f ys bu xs).steps ∧ planTime f.times xs (planV f xs ys bu) = (bestV f ys bu xs).time := by
  have hv : planV f xs ys bu = pathV f ys bu xs := by unfold planV; rw [if_pos h]
  rw [hv]
  unfold planE at h
  by_cases hp : plannedE f xs ys bu = 0
  · rw [if_pos hp] at h
    have hi : (bestV f ys bu xs).is = true := by
      cases hi : (bestV f ys bu xs).is with
      | true => rfl
      | false => rw [hi] at h; simp at h
    obtain ⟨hb, hwx, _⟩ := plannedE_ok hp
    obtain ⟨hok, hsx, hsy⟩ := beginE_ok hb
    obtain ⟨k1, k2, k3, k4, k5⟩ := path_ok (f := f) (bu := bu) hsy (gap xs ys) xs (Nat.le_refl _) hsx hi
    have hlen := path_len (f := f) (bu := bu) hsy (gap xs ys) xs (Nat.le_refl _) hsx hi
    have hgap : gap xs ys ≤ 18 := by
      have := gapTo_bd hok hsx hsy f.times.length (Nat.le_refl _)
      have h6 := hok.n6
      unfold gap; rw [hsy.len]; omega
    have hPl : PlOk f bu xs (pathV f ys bu xs) := ⟨hok, hsx, pl_at k5, k1, by omega⟩
    refine ⟨hPl, k2, ?_, k3, k4⟩
    have hz : statesE f [xs, ys] = 0 := by
      unfold beginE at hb
      by_cases hz : statesE f [xs, ys] = 0
      · exact hz
      · rw [if_neg hz] at hb; exact absurd hb hz
    have hchk := (statesE_zero hz).1
    have hz2 : statesE f (xs :: pathV f ys bu xs) = 0 := statesE_ok hchk (fun j hj => by
      cases j with
      | zero => simpa using hsx.b
      | succ j => simpa using (hPl.l j (by simpa using hj)).b)
    have hb2 : beginE f bu (xs :: pathV f ys bu xs) = 0 := by
      unfold beginE at hb ⊢
      rw [if_pos hz] at hb
      rw [if_pos hz2]; exact hb
    have hpre : cpPre f xs (pathV f ys bu xs) bu = 0 := by
      have h0 : chkE f = 0 := by unfold chkE; rw [if_pos hchk]
      have h64 : ¬ 64 < (pathV f ys bu xs).length := by omega
      unfold cpPre; rw [if_pos h0, if_neg h64, hb2]
    unfold cpR
    rw [if_pos hpre, hwx, if_pos rfl]
    exact (cpLoop_ok _ _ _).2 k1
  · rw [if_neg hp] at h; exact absurd h hp

/-- no plan is shorter -/
theorem no_shorter {f : Fl} {xs ys : List Int} {bu : Int} {Q : List (List Int)} (hp : planE f xs ys bu = 0) (hq : PlOk f bu xs Q) (hl : lastOf xs Q = ys) :
    (planV f xs ys bu).length < Q.length ∨ ((planV f xs ys bu).length = Q.length ∧ planTime f.times xs (planV f xs ys bu) ≤ planTime f.times xs Q) := by
  obtain ⟨h1, h2, h3, h4, h5⟩ := planV_holds hp
  unfold planE at hp
  by_cases hpp : plannedE f xs ys bu = 0
  · obtain ⟨hb, _, _⟩ := plannedE_ok hpp
    obtain ⟨hok, hsx, hsy⟩ := beginE_ok hb
    have := best_min (bu := bu) hok hsy Q xs hsx (pl_mem hq.l) hq.pl hl
    omega
  · rw [if_neg hpp] at hp; exact absurd hp hpp

/-- where there is no plan, no plan holds and arrives -/
theorem no_plan {f : Fl} {xs ys : List Int} {bu : Int} {Q : List (List Int)} (hp : planE f xs ys bu = 112) (hq : PlOk f bu xs Q) (hl : lastOf xs Q = ys) : False := by
  unfold planE at hp
  by_cases hpp : plannedE f xs ys bu = 0
  · rw [if_pos hpp] at hp
    obtain ⟨hb, _, _⟩ := plannedE_ok hpp
    obtain ⟨hok, hsx, hsy⟩ := beginE_ok hb
    have := (best_min (bu := bu) hok hsy Q xs hsx (pl_mem hq.l) hq.pl hl).1
    rw [this, if_pos rfl] at hp; omega
  · rw [if_neg hpp] at hp
    have hne : beginE f bu [xs, ys] ≠ 112 := by
      unfold beginE statesE
      split <;> (try split) <;> (try split) <;> omega
    unfold plannedE at hp
    split at hp
    · split at hp <;> omega
    · exact hne hp

theorem lastOf_at : ∀ (L : List (List Int)) (xs : List Int), 0 < L.length → lastOf xs L = L[L.length - 1]?.getD [] := by
  intro L
  induction L with
  | nil => intro xs h; simp at h
  | cons s r ih =>
    intro xs _
    cases r with
    | nil => rfl
    | cons t r => rw [lastOf, ih s (by simp)]; simp
end Go.Proofs.Ytlilojpnhmfnaaa
