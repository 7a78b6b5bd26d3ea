/- Plain law: a plan within a budget exists exactly if the least budget is not greater. No program in sight. -/
import Derived.Test.YtlilojpnhmfnaaaLeastD
namespace Go.Proofs.Ytlilojpnhmfnaaa

theorem enum_mem {f : Fl} {lo hi x : List Int} (hw : worksB f x = true) (hl : x.length = lo.length) : ∀ (k : Nat) (pre : List Int), pre.length + k = lo.length → (∀ c, c < pre.length → pre[c]?.getD 0 = x[c]?.getD 0) → (∀ c, pre.length ≤ c → c < lo.length → lo[c]?.getD 0 ≤ x[c]?.getD 0 ∧ x[c]?.getD 0 ≤ hi[c]?.getD 0) → x ∈ enum f lo hi k pre := by
  intro k
  induction k with
  | zero =>
    intro pre hp hpre _
    have : pre = x := (eqUpto_iff (by omega)).1 (fun j hj => hpre j hj)
    subst this
    simp [enum, hw]
  | succ k ih =>
    intro pre hp hpre hb
    have h1 := hb pre.length (Nat.le_refl _) (by omega)
    simp only [enum, List.mem_flatMap, List.mem_range]
    refine ⟨(x[pre.length]?.getD 0 - lo[pre.length]?.getD 0).toNat, by omega, ih _ (by simp; omega) (fun c hc => ?_) (fun c hc hlt => hb c (by simp at hc; omega) hlt)⟩
    by_cases e : c = pre.length
    · subst e; simp; omega
    · rw [List.getElem?_append_left (by simp at hc; omega)]; exact hpre c (by simp at hc; omega)
theorem enum_has {f : Fl} {lo hi x : List Int} (hw : worksB f x = true) (hb : Btw lo hi x) : x ∈ enum f lo hi lo.length [] :=
  enum_mem hw hb.len lo.length [] (by simp) (fun c hc => by simp at hc) (fun c _ hc => ⟨hb.ge c hc, hb.le c hc⟩)

theorem aboveV_refl (s : List Int) : aboveV s s = true := aboveV_true rfl (fun _ _ => Int.le_refl _)
theorem btw_end {s to : List Int} (hl : s.length = to.length) (ha : aboveV to s = true) : Btw s to to := ⟨hl.symm, fun c hc => aboveV_le ha c (by omega), fun _ _ => Int.le_refl _⟩
theorem Btw.above {lo hi s : List Int} (h : Btw lo hi s) : aboveV s lo = true := aboveV_true rfl (fun j hj => h.ge j (by rw [← h.len]; exact hj))
theorem Btw.below {lo hi s : List Int} (h : Btw lo hi s) (hl : lo.length = hi.length) : aboveV hi s = true := aboveV_true rfl (fun j hj => h.le j (by omega))

theorem dur_pos {f : Fl} {s t : List Int} (hok : FlOk f) (hs : StOk f s) (ht : StOk f t) (ha : aboveV t s = true) (hne : s ≠ t) : 0 < dur f.times s t := by
  have hab := aboveV_le ha
  have hz := durTo_zero_iff hok (fun c hc => (hs.ver c hc).1) ht (fun c hc => hab c (by rw [ht.len]; exact hc)) f.times.length (Nat.le_refl _)
  have hb := dur_bd hok hs ht ha
  have hd : dur f.times s t = durTo f.times s t f.times.length := by unfold dur; rw [ht.len]
  by_cases h0 : dur f.times s t = 0
  · rw [hd] at h0
    have := hz.1 h0
    exact absurd ((eqUpto_iff (by rw [hs.len, ht.len])).1 (fun j hj => (this j (by rw [← hs.len]; exact hj)).symm)) hne
  · omega

/-- when some rest is found -/
theorem fold_some {T : List (List Int)} {bu : Int} {s : List Int} {rec : List Int → Rs} : ∀ (l : List (List Int)) (b : Rs), ((l.foldl (bestStep T bu s rec) b).is = true ↔ b.is = true ∨ ∃ x ∈ l, stepsB T s x bu = true ∧ (rec x).is = true) := by
  intro l
  induction l with
  | nil => intro b; simp
  | cons x l ih =>
    intro b
    rw [List.foldl_cons, ih]
    have hstep : (bestStep T bu s rec b x).is = true ↔ b.is = true ∨ (stepsB T s x bu = true ∧ (rec x).is = true) := by
      unfold bestStep
      cases hs : stepsB T s x bu with
      | false => simp
      | true =>
        cases hr : (rec x).is with
        | false => simp
        | true =>
          cases hb : b.is with
          | false => simp [Rs.via]
          | true => simp; split <;> simp [Rs.via, hb]
    rw [hstep]
    constructor
    · rintro ((h | h) | ⟨y, hy, h⟩)
      · exact .inl h
      · exact .inr ⟨x, by simp, h⟩
      · exact .inr ⟨y, by simp [hy], h⟩
    · rintro (h | ⟨y, hy, h⟩)
      · exact .inl (.inl h)
      · rcases List.mem_cons.1 hy with rfl | hy
        · exact .inl (.inr h)
        · exact .inr ⟨y, hy, h⟩

/-- when the fold of Least is small -/
theorem foldLe_le {T : List (List Int)} {s : List Int} {rec : List Int → Int} {bu : Int} : ∀ (l : List (List Int)) (b : Int), (l.foldl (leastStep T s rec) b ≤ bu ↔ b ≤ bu ∨ ∃ x ∈ l, 0 < dur T s x ∧ dur T s x ≤ bu ∧ rec x ≤ bu) := by
  intro l
  induction l with
  | nil => intro b; simp
  | cons x l ih =>
    intro b
    rw [List.foldl_cons, ih]
    have hstep : leastStep T s rec b x ≤ bu ↔ b ≤ bu ∨ (0 < dur T s x ∧ dur T s x ≤ bu ∧ rec x ≤ bu) := by
      unfold leastStep
      split <;> omega
    rw [hstep]
    constructor
    · rintro ((h | h) | ⟨y, hy, h⟩)
      · exact .inl h
      · exact .inr ⟨x, by simp, h⟩
      · exact .inr ⟨y, by simp [hy], h⟩
    · rintro (h | ⟨y, hy, h⟩)
      · exact .inl (.inl h)
      · rcases List.mem_cons.1 hy with rfl | hy
        · exact .inl (.inr h)
        · exact .inr ⟨y, hy, h⟩

theorem best_iff_least {f : Fl} {to : List Int} {bu : Int} (hok : FlOk f) (hto : StOk f to) (hwto : worksB f to = true) (hbu : 0 ≤ bu) : ∀ (k : Nat) (s : List Int), gap s to ≤ k → StOk f s → aboveV to s = true → ((bestV f to bu s).is = true ↔ leastV f to s ≤ bu) := by
  intro k
  induction k with
  | zero =>
    intro s hk hs ha
    have hl : s.length = to.length := by rw [hs.len, hto.len]
    have := above_gap_zero hl ha (by omega)
    subst this
    rw [bestV_eq rfl, if_pos rfl, leastV_end]
    simp [Rs.fin, hbu]
  | succ k ih =>
    intro s hk hs ha
    have hl : s.length = to.length := by rw [hs.len, hto.len]
    by_cases he : s = to
    · subst he
      rw [bestV_eq rfl, if_pos rfl, leastV_end]
      simp [Rs.fin, hbu]
    · rw [bestV_eq hl, if_neg he, ha, if_pos rfl, leastV_eq hl ha he, fold_some, foldLe_le]
      have hsub : ∀ x, x ∈ enum f s to s.length [] → ((stepsB f.times s x bu = true ∧ (bestV f to bu x).is = true) ↔ (0 < dur f.times s x ∧ dur f.times s x ≤ bu ∧ leastV f to x ≤ bu)) := by
        intro x hx
        have hb := (enum_between hx).1
        have hsx := hs.btw hto hb
        constructor
        · rintro ⟨h1, h2⟩
          obtain ⟨_, hne, hd⟩ := stepsB_true h1
          have hg := gap_lt (hl := hl) hb hne
          exact ⟨dur_pos hok hs hsx hb.above hne, hd, (ih x (by omega) hsx (hb.below hl)).1 h2⟩
        · rintro ⟨h1, h2, h3⟩
          have hne : s ≠ x := fun e => by subst e; rw [dur_self] at h1; omega
          have hg := gap_lt (hl := hl) hb hne
          exact ⟨by simp [stepsB, hb.above, hne, h2], (ih x (by omega) hsx (hb.below hl)).2 h3⟩
      constructor
      · rintro (h | ⟨x, hx, h⟩)
        · simp [Rs.no] at h
        · exact .inr ⟨x, hx, (hsub x hx).1 h⟩
      · rintro (h | ⟨x, hx, h⟩)
        · have hm := enum_has hwto (btw_end hl ha)
          exact .inr ⟨to, hm, (hsub to hm).2 ⟨dur_pos hok hs hto ha he, h, by rw [leastV_end]; exact hbu⟩⟩
        · exact .inr ⟨x, hx, (hsub x hx).2 h⟩

theorem fold_pos {T : List (List Int)} {s : List Int} {rec : List Int → Int} : ∀ (l : List (List Int)) (b : Int), 0 < b → 0 < l.foldl (leastStep T s rec) b := by
  intro l
  induction l with
  | nil => intro b h; exact h
  | cons x l ih =>
    intro b h
    rw [List.foldl_cons]
    refine ih _ ?_
    unfold leastStep
    split <;> omega

theorem leastV_pos {f : Fl} {to s : List Int} (hok : FlOk f) (hs : StOk f s) (hto : StOk f to) (ha : aboveV to s = true) (he : s ≠ to) : 0 < leastV f to s := by
  rw [leastV_eq (by rw [hs.len, hto.len]) ha he]
  exact fold_pos _ _ (dur_pos hok hs hto ha he)
theorem leastV_bd {f : Fl} {to s : List Int} (hok : FlOk f) (hs : StOk f s) (hto : StOk f to) (ha : aboveV to s = true) : 0 ≤ leastV f to s ∧ leastV f to s ≤ 60000 := by
  by_cases he : s = to
  · subst he; rw [leastV_end]; omega
  · refine ⟨Int.le_of_lt (leastV_pos hok hs hto ha he), ?_⟩
    rw [leastV_eq (by rw [hs.len, hto.len]) ha he, foldLe_le]
    exact .inl (dur_bd hok hs hto ha).2

theorem withinB_bu {bu : Int} (h0 : 0 ≤ bu) (h1 : bu ≤ 1000000) : withinB bu 0 1000000 = true := withinB_eq_true ⟨h0, h1⟩

/-- Plan's error at any budget, by Least's -/
theorem planE_of_least {f : Fl} {a b : List Int} {bu : Int} (h0 : 0 ≤ bu) (h1 : bu ≤ 1000000) : planE f a b bu = if leastE f a b = 0 then (if leastV f b a ≤ bu then 0 else 112) else leastE f a b := by
  by_cases hz : statesE f [a, b] = 0
  · obtain ⟨hok, hsa, hsb⟩ := statesE_ok2 hz
    have hbe : beginE f bu [a, b] = 0 := by unfold beginE; rw [if_pos hz, withinB_bu h0 h1]; rfl
    unfold planE plannedE leastE
    rw [if_pos hbe, if_pos hz]
    cases hw : (worksB f a && worksB f b) with
    | false => simp
    | true =>
      have hwb : worksB f b = true := by simp at hw; exact hw.2
      simp only [if_true]
      cases ha : aboveV b a with
      | false =>
        have hne : ¬ a = b := fun e => by subst e; rw [aboveV_refl] at ha; cases ha
        have : (bestV f b bu a).is = false := by rw [bestV_eq (by rw [hsa.len, hsb.len]), if_neg hne, ha]; rfl
        simp [this]
      | true =>
        have hi := best_iff_least hok hsb hwb h0 (gap a b) a (Nat.le_refl _) hsa ha
        by_cases hle : leastV f b a ≤ bu
        · rw [hi.2 hle]; simp [hle]
        · have : (bestV f b bu a).is = false := by
            cases h : (bestV f b bu a).is with
            | false => rfl
            | true => exact absurd (hi.1 h) hle
          simp [this, hle]
  · have hbe : beginE f bu [a, b] = statesE f [a, b] := by unfold beginE; rw [if_neg hz]
    unfold planE plannedE leastE
    simp [hbe, hz]
end Go.Proofs.Ytlilojpnhmfnaaa
