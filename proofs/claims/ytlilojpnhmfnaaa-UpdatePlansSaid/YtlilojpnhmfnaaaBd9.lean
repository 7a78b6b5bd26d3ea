/- Several texts of this claim in one file. (1) Contract: the reference Count. (2) Plain law: the states come in ascending order; the newest one by both rules. (3) Plain law: the reference's table of roads holds the planner's rests. No program in sight. (4) Plain law: the roads lead the planner's way; the reference's plan; the binary search finds the least budget. No program in sight. (5) A table of roads in memory; the reference's table, row by row. (6) Contracts: the oldest and the newest state. (7) Contract: Count. -/
import Derived.Test.YtlilojpnhmfnaaaBd6
import Derived.Test.YtlilojpnhmfnaaaBd8
import Derived.Test.YtlilojpnhmfnaaaBd2
import Derived.Test.YtlilojpnhmfnaaaBd7
import Derived.Laws.MakeOwn
namespace Go.Proofs.Ytlilojpnhmfnaaa
section
open Go.RowKit

theorem chkE_zero {f : Fl} (h : chkE f = 0) : chkB f = true := by
  unfold chkE at h
  split at h
  · assumption
  · cases h
def cntV (f : Fl) : Int := if chkE f = 0 then ((allV f).length : Int) else 0

set_option maxRecDepth 100000 in
set_option maxHeartbeats 400000 in
theorem count2_any (ta ca : Option Addr) (tn tc cn cc : Nat) (f : Fl) (w : World) (hf : FlAt w ta tn ca cn f) :
    Calls Try.prog 41 #[.agg #[.slice ta tn tc, .slice ca cn cc]] w fun e w' => e = .returned (.tuple #[.int .i64 (cntV f), .int .i64 (chkE f)]) ∧ Gr w w' := by
  have G := Gr.refl w
  refine X.calls 13 Try.func41 rfl rfl ?_
  intro ac F0
  have F : Fr ac 13 [(0, .agg #[.slice ta tn tc, .slice ca cn cc])] := F0.sub _ (by kernel_rfl)
  clear F0
  refine wp_seq ?_
  refine wp_region_lit ?_
  refine X.pval F (X.w0 rfl) rfl (X.box rfl (F.ev 0 (.agg #[.slice ta tn tc, .slice ca cn cc]) (by kernel_rfl)) X.bx) ?_
  clear F ac
  intro ac F
  have g := Gr.alloc w (.cells #[.slice ta tn tc, .slice ca cn cc] 25)
  have hb := heap_alloc_new w (.cells #[.slice ta tn tc, .slice ca cn cc] 25)
  have hbl : w.heap.size < (w.alloc (.cells #[.slice ta tn tc, .slice ca cn cc] 25)).heap.size := by simp
  have hC2 : RCells (w.alloc (.cells #[.slice ta tn tc, .slice ca cn cc] 25)) [(⟨w.heap.size, 0, none⟩, .slice ta tn tc), (⟨w.heap.size, 1, none⟩, .slice ca cn cc)] := (RCells.nil w).box (b := w.heap.size) #[.slice ta tn tc, .slice ca cn cc] 25 rfl
  generalize w.alloc (.cells #[.slice ta tn tc, .slice ca cn cc] 25) = w3 at *
  replace G := G.trans g
  have hC := hC2
  clear hC2
  replace hf := hf.gr g
  clear g hb hbl
  refine X.pval F (X.w0 rfl) rfl (X.assign rfl (X.kc (.int .i64 0) rfl)) ?_
  clear F ac
  intro ac F
  refine X.pval F (X.w0 rfl) rfl (X.assign rfl (X.kc (.int .i64 0) rfl)) ?_
  clear F ac
  intro ac F
  refine wpList_nil ?_
  replace F : Fr ac 13 [(0, .agg #[.slice ta tn tc, .slice ca cn cc]), (1, .pointer (some ⟨w.heap.size, 0, none⟩)), (2, .int .i64 0), (3, .int .i64 0)] := F.sub _ (by kernel_rfl)
  refine X.thenN ?_
  refine wp_seq ?_
  refine wp_seq ?_
  refine wp_region_lit ?_
  refine X.pval F (X.w0 rfl) rfl (X.load rfl (F.ev 1 (.pointer (some ⟨w.heap.size, 0, none⟩)) (by kernel_rfl)) (X.ldN (Try.agg25 _) (Try.siz25 _) (X.c2 (hC.at 0 rfl) (hC.at 1 rfl)))) ?_
  clear F ac
  intro ac F
  refine X.pcall F (X.w0 rfl) rfl (X.enter (F := 37) rfl (X.kc (.func (.func 37) #[] #[]) rfl) (X.a1 (F.ev 5 (.agg #[.slice ta tn tc, .slice ca cn cc]) (by kernel_rfl))) (enters_of Try.func37 (by kernel_rfl) rfl _)) (check2_any ta ca tn tc cn cc f w3 hf) ?_
  clear F ac
  rintro e w4 ⟨rfl, g⟩
  refine ⟨_, rfl, ?_⟩
  intro ac F
  replace G := G.trans g
  replace hC := hC.gr g
  replace hf := hf.gr g
  clear g
  refine X.pval F (X.w0 rfl) rfl (X.assign rfl (F.ev 6 (.int .i64 (chkE f)) (by kernel_rfl))) ?_
  clear F ac
  intro ac F
  refine wpList_nil ?_
  replace F : Fr ac 13 [(0, .agg #[.slice ta tn tc, .slice ca cn cc]), (1, .pointer (some ⟨w.heap.size, 0, none⟩)), (2, .int .i64 0), (3, .int .i64 0), (4, .int .i64 (chkE f))] := F.sub _ (by kernel_rfl)
  refine X.thenN ?_
  refine wp_seq ?_
  refine wp_region_lit ?_
  refine X.pval F (X.w0 rfl) rfl (X.move rfl (F.ev 4 (.int .i64 (chkE f)) (by kernel_rfl))) ?_
  clear F ac
  intro ac F
  refine X.pval F (X.w0 rfl) rfl (X.binop rfl (F.ev 7 (.int .i64 (chkE f)) (by kernel_rfl)) (X.kc (.int .i64 0) rfl) (X.neqI Try.underlying31 rfl)) ?_
  clear F ac
  intro ac F
  refine wpList_nil ?_
  replace F : Fr ac 13 [(0, .agg #[.slice ta tn tc, .slice ca cn cc]), (1, .pointer (some ⟨w.heap.size, 0, none⟩)), (2, .int .i64 0), (3, .int .i64 0), (4, .int .i64 (chkE f)), (8, .bool ((chkE f : Int) != 0))] := F.sub _ (by kernel_rfl)
  refine X.thenN ?_
  cases h5 : ((chkE f : Int) != 0) with
  | false =>
    try rw [h5] at F
    have h5p : (chkE f : Int) = 0 := by simpa using h5
    have hok : FlOk f := chkB_ok (chkE_zero h5p)
    refine wp_cond_false (F.ev 8 (.bool false) (by kernel_rfl)) ?_
    refine wp_skip ?_
    refine X.thenN ?_
    refine wp_seq ?_
    refine wp_region_lit ?_
    refine X.pval F (X.w0 rfl) rfl (X.load rfl (F.ev 1 (.pointer (some ⟨w.heap.size, 0, none⟩)) (by kernel_rfl)) (X.ldN (Try.agg25 _) (Try.siz25 _) (X.c2 (hC.at 0 rfl) (hC.at 1 rfl)))) ?_
    clear F ac
    intro ac F
    refine X.pcall F (X.w0 rfl) rfl (X.enter (F := 81) rfl (X.kc (.func (.func 81) #[] #[]) rfl) (X.a2 (F.ev 10 (.agg #[.slice ta tn tc, .slice ca cn cc]) (by kernel_rfl)) (X.kc (.slice none 0 0) rfl)) (enters_of Try.func81 (by kernel_rfl) rfl _)) (states2_nil ta ca tn tc cn cc f w4 hok hf) ?_
    clear F ac
    rintro e w7 ⟨ra6, rn6, rc6, rfl, hR6, g⟩
    refine ⟨_, rfl, ?_⟩
    intro ac F
    replace G := G.trans g
    replace hC := hC.gr g
    replace hf := hf.gr g
    clear g
    refine X.pval F (X.w0 rfl) rfl (X.len1 Try.underlying22 rfl (F.ev 11 (.slice ra6 rn6 rc6) (by kernel_rfl))) ?_
    clear F ac
    intro ac F
    refine X.pval F (X.w0 rfl) rfl (X.assign rfl (F.ev 12 (.int .i64 rn6) (by kernel_rfl))) ?_
    clear F ac
    intro ac F
    refine X.pval F (X.w0 rfl) rfl (X.assign rfl (X.kc (.int .i64 0) rfl)) ?_
    clear F ac
    intro ac F
    refine wpList_nil ?_
    replace F : Fr ac 13 [(0, .agg #[.slice ta tn tc, .slice ca cn cc]), (1, .pointer (some ⟨w.heap.size, 0, none⟩)), (2, .int .i64 rn6), (3, .int .i64 0), (4, .int .i64 (chkE f)), (8, .bool false)] := F.sub _ (by kernel_rfl)
    refine X.thenN ?_
    refine wp_ret ?_
    have HV : cntV f = (rn6 : Int) := by unfold cntV; rw [if_pos (by assumption), hR6.len]
    have HE : chkE f = 0 := by assumption
    exact X.ret2 (v := .int .i64 rn6) (x := .int .i64 0) F rfl (by kernel_rfl) (by kernel_rfl) ⟨by rw [HV, HE], G⟩
  | true =>
    try rw [h5] at F
    have h5p : ¬ (chkE f : Int) = 0 := by simpa using h5
    have HV : cntV f = 0 := if_neg h5p
    refine wp_cond_true (F.ev 8 (.bool true) (by kernel_rfl)) ?_
    refine wp_seq ?_
    refine wp_region_lit ?_
    refine X.pval F (X.w0 rfl) rfl (X.move rfl (F.ev 4 (.int .i64 (chkE f)) (by kernel_rfl))) ?_
    clear F ac
    intro ac F
    refine X.pval F (X.w0 rfl) rfl (X.assign rfl (X.kc (.int .i64 0) rfl)) ?_
    clear F ac
    intro ac F
    refine X.pval F (X.w0 rfl) rfl (X.assign rfl (F.ev 9 (.int .i64 (chkE f)) (by kernel_rfl))) ?_
    clear F ac
    intro ac F
    refine wpList_nil ?_
    replace F : Fr ac 13 [(0, .agg #[.slice ta tn tc, .slice ca cn cc]), (1, .pointer (some ⟨w.heap.size, 0, none⟩)), (2, .int .i64 0), (3, .int .i64 (chkE f)), (4, .int .i64 (chkE f)), (8, .bool true)] := F.sub _ (by kernel_rfl)
    refine X.thenN ?_
    refine wp_ret ?_
    refine X.thenR ?_
    exact X.ret2 (v := .int .i64 0) (x := .int .i64 (chkE f)) F rfl (by kernel_rfl) (by kernel_rfl) ⟨by rw [HV], G⟩
end
section
open Go.RowKit

theorem cmpI_self (x : Int) : cmpI x x = 0 := by simp [cmpI]
theorem cmpL_lt : ∀ (p xs ys : List Int) (x y : Int), y < x → cmpL (p ++ x :: xs) (p ++ y :: ys) = 1 := by
  intro p
  induction p with
  | nil =>
    intro xs ys x y h
    have h2 : ¬ x < y := by omega
    simp [cmpL, cmpI, h, h2]
  | cons z p ih => intro xs ys x y h; simp only [List.cons_append, cmpL, cmpI_self, if_pos]; exact ih xs ys x y h
theorem cmpL_self : ∀ xs : List Int, cmpL xs xs = 0 := by
  intro xs
  induction xs with
  | nil => rfl
  | cons x xs ih => simp [cmpL, cmpI_self, ih]
theorem enumR_pre {f : Fl} : ∀ (k : Nat) (pre x : List Int), x ∈ enumR f k pre → ∃ t, x = pre ++ t := by
  intro k
  induction k with
  | zero =>
    intro pre x hx
    simp only [enumR] at hx
    split at hx
    · simp at hx; exact ⟨[], by simp [hx]⟩
    · simp at hx
  | succ k ih =>
    intro pre x hx
    simp only [enumR, List.mem_flatMap, List.mem_range] at hx
    obtain ⟨i, _, hi⟩ := hx
    obtain ⟨t, rfl⟩ := ih _ _ hi
    exact ⟨(i : Int) :: t, by simp⟩
/-- states in ascending order -/
def Asc (L : List (List Int)) : Prop := L.Pairwise fun a b => cmpL b a = 1
theorem enumR_asc {f : Fl} : ∀ (k : Nat) (pre : List Int), Asc (enumR f k pre) := by
  intro k
  induction k with
  | zero => intro pre; unfold Asc; simp only [enumR]; split <;> simp
  | succ k ih =>
    intro pre
    unfold Asc
    simp only [enumR]
    rw [List.pairwise_flatMap]
    refine ⟨fun i _ => ih _, List.Pairwise.imp ?_ List.pairwise_lt_range⟩
    intro i j hij x hx y hy
    obtain ⟨t, rfl⟩ := enumR_pre _ _ _ hx
    obtain ⟨u, rfl⟩ := enumR_pre _ _ _ hy
    rw [List.append_assoc, List.append_assoc]
    exact cmpL_lt pre u t j i (by omega)
theorem allV_asc (f : Fl) : Asc (allV f) := enumR_asc _ _
theorem allV_enum (f : Fl) : allV f = enum f (zeros f) (newestV f) f.times.length [] := enumR_eq f _ _ (by simp)

/-- the reference's choice -/
def pick2 (b s : List Int) : List Int := if sumV b ≤ sumV s then s else b
def new2 (L : List (List Int)) : List Int := L.foldl pick2 (L[0]?.getD [])
def newE (f : Fl) : Int := if chkE f = 0 then (if (allV f).length = 0 then 3 else 0) else chkE f
def newW (f : Fl) : List Int := if chkE f = 0 then new2 (allV f) else []
/-- the program's choice -/
def pick1 : Option (List Int) → List Int → Option (List Int)
  | none, s => some s
  | some b, s => if 0 < orI (cmpI (sumV s) (sumV b)) (cmpL s b) then some s else some b
def new1 (L : List (List Int)) : Option (List Int) := L.foldl pick1 none
theorem new1_snoc (L : List (List Int)) (x : List Int) : new1 (L ++ [x]) = pick1 (new1 L) x := by unfold new1; rw [List.foldl_append]; rfl

theorem pick_or {x y c : Int} (hc : c = 1) : (0 < orI (cmpI x y) c) ↔ y ≤ x := by
  subst hc
  unfold orI cmpI
  split <;> split <;> (try split at *) <;> omega
theorem pick_some : ∀ (L : List (List Int)) (b : List Int), (∀ x ∈ L, cmpL x b = 1) → Asc L → L.foldl pick1 (some b) = some (L.foldl pick2 b) := by
  intro L
  induction L with
  | nil => intro b _ _; rfl
  | cons x L ih =>
    intro b hb ha
    have hx := hb x (by simp)
    have ha' := List.pairwise_cons.1 ha
    simp only [List.foldl_cons, pick1, pick2]
    by_cases h : sumV b ≤ sumV x
    · rw [if_pos ((pick_or hx).2 h), if_pos h]; exact ih x ha'.1 ha'.2
    · rw [if_neg (fun h2 => h ((pick_or hx).1 h2)), if_neg h]; exact ih b (fun y hy => hb y (by simp [hy])) ha'.2
theorem new_same {L : List (List Int)} (ha : Asc L) : new1 L = if L.length = 0 then none else some (new2 L) := by
  cases L with
  | nil => rfl
  | cons x L =>
    have ha' := List.pairwise_cons.1 ha
    have h0 : ¬ (x :: L).length = 0 := by simp
    rw [if_neg h0]
    show L.foldl pick1 (some x) = _
    rw [pick_some L x ha'.1 ha'.2]
    simp [new2, pick2]
end
section
theorem cmpI_anti (x y : Int) : cmpI y x = - cmpI x y := by
  unfold cmpI
  split <;> split <;> (try split) <;> omega
theorem cmpL_anti : ∀ (x y : List Int), cmpL y x = - cmpL x y := by
  intro x
  induction x with
  | nil => intro y; cases y <;> rfl
  | cons a x ih =>
    intro y
    cases y with
    | nil => rfl
    | cons b y =>
      simp only [cmpL]
      rw [cmpI_anti a b]
      by_cases h : cmpI a b = 0
      · have h2 : - cmpI a b = 0 := by omega
        rw [if_pos h, if_pos h2]; exact ih y
      · have h2 : ¬ - cmpI a b = 0 := by omega
        rw [if_neg h, if_neg h2]
theorem cmpL_eq : ∀ {x y : List Int}, cmpL x y = 0 → x = y := by
  intro x
  induction x with
  | nil => intro y h; cases y with
    | nil => rfl
    | cons b y => simp [cmpL] at h
  | cons a x ih =>
    intro y h
    cases y with
    | nil => simp [cmpL] at h
    | cons b y =>
      simp only [cmpL] at h
      by_cases h0 : cmpI a b = 0
      · rw [if_pos h0] at h
        have hab : a = b := by
          unfold cmpI at h0
          split at h0
          · omega
          · split at h0 <;> omega
        rw [hab, ih h]
      · rw [if_neg h0] at h; exact absurd h h0
/-- two ascending lists of the same states are equal -/
theorem asc_ext : ∀ {A B : List (List Int)}, Asc A → Asc B → (∀ x, x ∈ A ↔ x ∈ B) → A = B := by
  intro A
  induction A with
  | nil =>
    intro B _ _ h
    cases B with
    | nil => rfl
    | cons b B => have := (h b).2 (by simp); simp at this
  | cons a A ih =>
    intro B hA hB h
    cases B with
    | nil => have := (h a).1 (by simp); simp at this
    | cons b B =>
      have hA' := List.pairwise_cons.1 hA
      have hB' := List.pairwise_cons.1 hB
      have hab : a = b := by
        have h1 := (h a).1 (by simp)
        have h2 := (h b).2 (by simp)
        rcases List.mem_cons.1 h1 with e | h1
        · exact e
        · rcases List.mem_cons.1 h2 with e | h2
          · exact e.symm
          · have k1 := hB'.1 a h1
            have k2 := hA'.1 b h2
            have := cmpL_anti a b
            omega
      subst hab
      rw [ih hA'.2 hB'.2 (fun x => ?_)]
      have hx := h x
      constructor
      · intro hm
        rcases List.mem_cons.1 (hx.1 (by simp [hm])) with e | h2
        · subst e; have := hA'.1 x hm; rw [cmpL_self] at this; omega
        · exact h2
      · intro hm
        rcases List.mem_cons.1 (hx.2 (by simp [hm])) with e | h2
        · subst e; have := hB'.1 x hm; rw [cmpL_self] at this; omega
        · exact h2

theorem enum_pre {f : Fl} {lo hi : List Int} : ∀ (k : Nat) (pre x : List Int), x ∈ enum f lo hi k pre → ∃ t, x = pre ++ t := by
  intro k
  induction k with
  | zero =>
    intro pre x hx
    simp only [enum] at hx
    split at hx
    · simp at hx; exact ⟨[], by simp [hx]⟩
    · simp at hx
  | succ k ih =>
    intro pre x hx
    simp only [enum, List.mem_flatMap, List.mem_range] at hx
    obtain ⟨i, _, hi⟩ := hx
    obtain ⟨t, rfl⟩ := ih _ _ hi
    exact ⟨(lo[pre.length]?.getD 0 + (i : Int)) :: t, by simp⟩
theorem enum_asc {f : Fl} {lo hi : List Int} : ∀ (k : Nat) (pre : List Int), Asc (enum f lo hi k pre) := by
  intro k
  induction k with
  | zero => intro pre; unfold Asc; simp only [enum]; split <;> simp
  | succ k ih =>
    intro pre
    unfold Asc
    simp only [enum]
    rw [List.pairwise_flatMap]
    refine ⟨fun i _ => ih _, List.Pairwise.imp ?_ List.pairwise_lt_range⟩
    intro i j hij x hx y hy
    obtain ⟨t, rfl⟩ := enum_pre _ _ _ hx
    obtain ⟨u, rfl⟩ := enum_pre _ _ _ hy
    rw [List.append_assoc, List.append_assoc]
    exact cmpL_lt pre u t _ _ (by omega)

theorem allV_ok {f : Fl} {x : List Int} (h : x ∈ allV f) : StOk f x ∧ worksB f x = true :=
  enumR_ok f.times.length [] (by simp) (fun c hc => by simp at hc) x h
theorem allV_has {f : Fl} {x : List Int} (hx : StOk f x) (hw : worksB f x = true) : x ∈ allV f := by
  rw [allV_enum]
  have hz : (zeros f).length = f.times.length := by simp [zeros]
  have hb : Btw (zeros f) (newestV f) x := ⟨by rw [hx.len, hz], fun c hc => by
    rw [hz] at hc
    have := (hx.ver c hc).1
    simpa [zeros, hc] using this, fun c hc => by
    rw [hz] at hc
    have := (hx.ver c hc).2
    simpa [newestV, hc] using this⟩
  have := enum_has hw hb
  rw [hz] at this; exact this
/-- the states of a box are those of all that lie in it -/
theorem enum_filter {f : Fl} {lo hi : List Int} (hlo : StOk f lo) (hhi : StOk f hi) : enum f lo hi lo.length [] = (allV f).filter (fun x => aboveV x lo && aboveV hi x) := by
  refine asc_ext (enum_asc _ _) ((allV_asc f).filter _) (fun x => ?_)
  rw [List.mem_filter]
  have hl : lo.length = hi.length := by rw [hlo.len, hhi.len]
  constructor
  · intro h
    obtain ⟨hb, hw⟩ := enum_between h
    exact ⟨allV_has (hlo.btw hhi hb) hw, by rw [hb.above, hb.below hl]; rfl⟩
  · rintro ⟨h, hb⟩
    obtain ⟨hx, hw⟩ := allV_ok h
    simp only [Bool.and_eq_true] at hb
    exact enum_has hw ⟨by rw [hx.len, hlo.len], fun c hc => aboveV_le hb.1 c (by rw [hx.len, ← hlo.len]; exact hc), fun c hc => aboveV_le hb.2 c (by rw [← hl]; exact hc)⟩

/-- what is not in a list does not turn a fold -/
theorem foldl_filter {α β : Type} (g : β → α → β) (p : α → Bool) : ∀ (l : List α) (b : β), (∀ x ∈ l, p x = false → ∀ b, g b x = b) → (l.filter p).foldl g b = l.foldl g b := by
  intro l
  induction l with
  | nil => intro b _; rfl
  | cons x l ih =>
    intro b h
    cases hp : p x with
    | true => rw [List.filter_cons_of_pos hp, List.foldl_cons, List.foldl_cons, ih _ (fun y hy => h y (by simp [hy]))]
    | false => rw [List.filter_cons_of_neg (by simp [hp]), List.foldl_cons, h x (by simp) hp, ih _ (fun y hy => h y (by simp [hy]))]

/-- an ascending state lies behind -/
theorem above_cmp : ∀ {x s : List Int}, x.length = s.length → aboveV x s = true → x ≠ s → cmpL x s = 1 := by
  intro x
  induction x with
  | nil => intro s hl _ hne; cases s with
    | nil => exact absurd rfl hne
    | cons b s => simp at hl
  | cons a x ih =>
    intro s hl ha hne
    cases s with
    | nil => simp at hl
    | cons b s =>
      have hle := aboveV_le ha
      have h0 := hle 0 (by simp)
      simp at h0
      simp only [cmpL]
      by_cases hab : a = b
      · subst hab
        rw [cmpI_self, if_pos rfl]
        exact ih (by simpa using hl) (aboveV_true rfl (fun j hj => by have := hle (j + 1) (by simpa using hj); simpa using this)) (fun e => hne (by rw [e]))
      · have h1 : b < a := by omega
        have h2 : ¬ a < b := by omega
        simp [cmpI, h1, h2]

/-- a road: steps, time, the next state's place -/
structure Rd where
  steps : Int
  time : Int
  nxt : Int
def Rd.no : Rd := ⟨-1, 0, -1⟩
def Rd.fin : Rd := ⟨0, 0, -1⟩
def roadStep (T : List (List Int)) (bu : Int) (s : List Int) (b : Rd) (x : List Int) (r : Rd) (k : Nat) : Rd :=
  if stepV T s x < 0 ∨ bu < stepV T s x ∨ r.steps < 0 then b else
  if b.steps < 0 ∨ r.steps + 1 < b.steps ∨ (r.steps + 1 = b.steps ∧ r.time + stepV T s x < b.time) then ⟨r.steps + 1, r.time + stepV T s x, k⟩ else b
/-- the best road from s over the states that follow, of which the first has place k -/
def roadFold (T : List (List Int)) (bu : Int) (s : List Int) : Rd → List (List Int) → List Rd → Nat → Rd
  | b, x :: r, y :: t, k => roadFold T bu s (roadStep T bu s b x y k) r t (k + 1)
  | b, _, _, _ => b
/-- the roads of the states that are left, of which the first has place k -/
def roadsF (T : List (List Int)) (to : List Int) (bu : Int) : List (List Int) → Nat → List Rd
  | [], _ => []
  | s :: r, k => (if s = to then Rd.fin else roadFold T bu s Rd.no r (roadsF T to bu r (k + 1)) (k + 1)) :: roadsF T to bu r (k + 1)
theorem roadsF_len {T : List (List Int)} {to : List Int} {bu : Int} : ∀ (L : List (List Int)) (k : Nat), (roadsF T to bu L k).length = L.length := by
  intro L
  induction L with
  | nil => intro k; rfl
  | cons s r ih => intro k; simp [roadsF, ih]

/-- a road is a rest -/
structure RdOk (L : List (List Int)) (b : Rs) (m : Rd) : Prop where
  no : b.is = false → m = Rd.no
  yes : b.is = true → 0 ≤ m.steps ∧ m.steps = b.steps ∧ m.time = b.time
  nx : b.is = true → b.nxt ≠ [] → 0 ≤ m.nxt ∧ m.nxt.toNat < L.length ∧ L[m.nxt.toNat]?.getD [] = b.nxt
  nn : b.is = true → b.nxt = [] → m.nxt = -1
theorem RdOk.none (L : List (List Int)) : RdOk L Rs.no Rd.no := ⟨fun _ => rfl, fun h => by simp [Rs.no] at h, fun h => by simp [Rs.no] at h, fun h => by simp [Rs.no] at h⟩

theorem roadStep_ok {f : Fl} {L : List (List Int)} {bu : Int} {s x : List Int} {rec : List Int → Rs} {b : Rs} {m r : Rd} {k : Nat} (hok : FlOk f) (hs : StOk f s) (hx : StOk f x) (hne : x ≠ []) (hk : L[k]? = some x) (hb : RdOk L b m) (hr : RdOk L (rec x) r) :
    RdOk L (bestStep f.times bu s rec b x) (roadStep f.times bu s m x r k) := by
  cases hst : stepsB f.times s x bu with
  | false =>
    have := stepsB_false hok hs hx hst
    have h2 : stepV f.times s x < 0 ∨ bu < stepV f.times s x ∨ r.steps < 0 := by omega
    have e1 : bestStep f.times bu s rec b x = b := by simp [bestStep, hst]
    have e2 : roadStep f.times bu s m x r k = m := if_pos h2
    rw [e1, e2]; exact hb
  | true =>
    have h1 := stepsB_true2 hok hs hx hst
    have hdv := stepV_dur hok hs hx hst
    cases hri : (rec x).is with
    | false =>
      have hneg : r.steps < 0 := by rw [hr.no hri]; decide
      have e1 : bestStep f.times bu s rec b x = b := by simp [bestStep, hst, hri]
      have e2 : roadStep f.times bu s m x r k = m := if_pos (.inr (.inr hneg))
      rw [e1, e2]; exact hb
    | true =>
      obtain ⟨y1, y2, y3⟩ := hr.yes hri
      have h2 : ¬ (stepV f.times s x < 0 ∨ bu < stepV f.times s x ∨ r.steps < 0) := by omega
      have hnew : RdOk L ((rec x).via f.times s x) ⟨r.steps + 1, r.time + stepV f.times s x, k⟩ := by
        refine ⟨fun h => by simp [Rs.via] at h, fun _ => ⟨by show 0 ≤ r.steps + 1; omega, by simp only [Rs.via]; omega, by simp only [Rs.via]; rw [hdv]; omega⟩, fun _ _ => ⟨by show (0 : Int) ≤ (k : Int); omega, ?_, ?_⟩, fun _ h => absurd h hne⟩
        · show ((k : Int)).toNat < L.length
          rw [Int.toNat_natCast]; exact (List.getElem?_eq_some_iff.1 hk).1
        · show L[((k : Int)).toNat]?.getD [] = x
          rw [Int.toNat_natCast, hk]; rfl
      have e2 : ∀ (h : m.steps < 0 ∨ r.steps + 1 < m.steps ∨ (r.steps + 1 = m.steps ∧ r.time + stepV f.times s x < m.time)), roadStep f.times bu s m x r k = ⟨r.steps + 1, r.time + stepV f.times s x, k⟩ := fun h => (if_neg h2).trans (if_pos h)
      have e3 : ∀ (h : ¬ (m.steps < 0 ∨ r.steps + 1 < m.steps ∨ (r.steps + 1 = m.steps ∧ r.time + stepV f.times s x < m.time))), roadStep f.times bu s m x r k = m := fun h => (if_neg h2).trans (if_neg h)
      cases hbi : b.is with
      | false =>
        have hm := hb.no hbi
        have e1 : bestStep f.times bu s rec b x = (rec x).via f.times s x := by simp [bestStep, hst, hri, hbi]
        rw [e1, e2 (by rw [hm]; exact .inl (by decide))]
        exact hnew
      | true =>
        obtain ⟨z1, z2, z3⟩ := hb.yes hbi
        cases hl : rsLess ((rec x).via f.times s x) b with
        | true =>
          have := (rsLess_iff _ _).1 hl
          simp only [Rs.via] at this
          have e1 : bestStep f.times bu s rec b x = (rec x).via f.times s x := by simp [bestStep, hst, hri, hbi, hl]
          rw [e1, e2 (by rw [hdv]; omega)]
          exact hnew
        | false =>
          have : ¬ (((rec x).via f.times s x).steps < b.steps ∨ (((rec x).via f.times s x).steps = b.steps ∧ ((rec x).via f.times s x).time < b.time)) := fun h => by rw [(rsLess_iff _ _).2 h] at hl; cases hl
          simp only [Rs.via] at this
          have e1 : bestStep f.times bu s rec b x = b := by simp [bestStep, hst, hri, hbi, hl]
          rw [e1, e3 (by rw [hdv]; omega)]
          exact hb

theorem roadFold_ok {f : Fl} {L : List (List Int)} {bu : Int} {s : List Int} {rec : List Int → Rs} (hok : FlOk f) (hs : StOk f s) : ∀ (r : List (List Int)) (t : List Rd) (k : Nat) (b : Rs) (m : Rd),
    (∀ x ∈ r, StOk f x ∧ x ≠ []) → (∀ j, j < r.length → L[k + j]? = r[j]?) → t.length = r.length → (∀ j, j < r.length → ∀ y, t[j]? = some y → RdOk L (rec (r[j]?.getD [])) y) → RdOk L b m →
    RdOk L (r.foldl (bestStep f.times bu s rec) b) (roadFold f.times bu s m r t k) := by
  intro r
  induction r with
  | nil => intro t k b m _ _ _ _ hb; cases t <;> exact hb
  | cons x r ih =>
    intro t k b m hx hL ht hr hb
    cases t with
    | nil => simp at ht
    | cons y t =>
      simp only [List.foldl_cons, roadFold]
      have hx0 := hx x (by simp)
      have hk : L[k]? = some x := by have := hL 0 (by simp); simpa using this
      have hy := hr 0 (by simp) y (by simp)
      simp at hy
      refine ih t (k + 1) _ _ (fun z hz => hx z (by simp [hz])) (fun j hj => ?_) (by simpa using ht) (fun j hj z hz => ?_) (roadStep_ok hok hs hx0.1 hx0.2 hk hb hy)
      · have := hL (j + 1) (by simpa using hj)
        rw [show k + 1 + j = k + (j + 1) by omega, this]; simp
      · have := hr (j + 1) (by simpa using hj) z (by simpa using hz)
        simpa using this

/-- the rest of a state, over the states behind it -/
theorem bestV_behind {f : Fl} {to : List Int} {bu : Int} {pre r : List (List Int)} {s : List Int} (hs : StOk f s) (hto : StOk f to) (hall : allV f = pre ++ s :: r) (hne : s ≠ to) :
    bestV f to bu s = r.foldl (bestStep f.times bu s (bestV f to bu)) Rs.no := by
  have hl : s.length = to.length := by rw [hs.len, hto.len]
  have hasc := allV_asc f
  rw [hall] at hasc
  have hpre : ∀ x ∈ pre, cmpL s x = 1 := fun x hx => (List.pairwise_append.1 hasc).2.2 x hx s (by simp)
  have hmem : ∀ x ∈ pre ++ s :: r, StOk f x := fun x hx => (allV_ok (by rw [hall]; exact hx)).1
  have hskip : ∀ x ∈ pre ++ s :: r, (aboveV x s && aboveV to x) = false → ∀ b, bestStep f.times bu s (bestV f to bu) b x = b := by
    intro x hx hp b
    unfold bestStep
    cases hst : stepsB f.times s x bu with
    | false => simp
    | true =>
      obtain ⟨ha, hn, _⟩ := stepsB_true hst
      rw [ha] at hp
      simp only [Bool.true_and] at hp
      have hxs := hmem x hx
      have hnx : x ≠ to := fun e => by subst e; rw [aboveV_refl] at hp; cases hp
      have : (bestV f to bu x).is = false := by rw [bestV_eq (by rw [hxs.len, hto.len]), if_neg hnx, hp]; rfl
      simp [this]
  have hfold : (pre ++ s :: r).foldl (bestStep f.times bu s (bestV f to bu)) Rs.no = r.foldl (bestStep f.times bu s (bestV f to bu)) Rs.no := by
    have hp : ∀ (l : List (List Int)) (b : Rs), (∀ x ∈ l, x = s ∨ cmpL s x = 1) → (∀ x ∈ l, StOk f x) → l.foldl (bestStep f.times bu s (bestV f to bu)) b = b := by
      intro l
      induction l with
      | nil => intro b _ _; rfl
      | cons x l ih =>
        intro b h hx
        rw [List.foldl_cons]
        have h0 : bestStep f.times bu s (bestV f to bu) b x = b := by
          unfold bestStep
          cases hst : stepsB f.times s x bu with
          | false => simp
          | true =>
            obtain ⟨ha, hn, _⟩ := stepsB_true hst
            rcases h x (by simp) with e | e
            · exact absurd e.symm hn
            · have h1 := above_cmp (by rw [(hx x (by simp)).len, hs.len]) ha (Ne.symm hn)
              have := cmpL_anti x s
              omega
        rw [h0]
        exact ih b (fun y hy => h y (by simp [hy])) (fun y hy => hx y (by simp [hy]))
    rw [show pre ++ s :: r = (pre ++ [s]) ++ r by simp, List.foldl_append, hp (pre ++ [s]) Rs.no (fun x hx => ?_) (fun x hx => hmem x (by simp at hx ⊢; rcases hx with h | h <;> simp [h]))]
    rcases List.mem_append.1 hx with h | h
    · exact .inr (hpre x h)
    · exact .inl (by simpa using h)
  rw [bestV_eq hl, if_neg hne]
  cases ha : aboveV to s with
  | true =>
    rw [if_pos rfl, enum_filter hs hto, hall, foldl_filter _ _ _ _ hskip, hfold]
  | false =>
    rw [if_neg (by simp), ← hfold, ← foldl_filter _ (fun x => aboveV x s && aboveV to x) _ _ hskip]
    have : (pre ++ s :: r).filter (fun x => aboveV x s && aboveV to x) = [] := by
      rw [List.filter_eq_nil_iff]
      intro x hx hb
      simp only [Bool.and_eq_true] at hb
      have := aboveV_trans hs (hmem x hx) hto hb.1 hb.2
      rw [ha] at this; cases this
    rw [this]; rfl

/-- THE TABLE HOLDS THE RESTS -/
theorem roadsF_ok {f : Fl} {to : List Int} {bu : Int} (hok : FlOk f) (hto : StOk f to) : ∀ (r pre : List (List Int)), allV f = pre ++ r → ∀ j, j < r.length → ∀ y, (roadsF f.times to bu r pre.length)[j]? = some y → RdOk (allV f) (bestV f to bu (r[j]?.getD [])) y := by
  intro r
  induction r with
  | nil => intro pre _ j hj; simp at hj
  | cons s r ih =>
    intro pre hall j hj y hy
    have hr := ih (pre ++ [s]) (by rw [hall]; simp)
    have hlen : (pre ++ [s]).length = pre.length + 1 := by simp
    rw [hlen] at hr
    have hmem : ∀ x ∈ pre ++ s :: r, StOk f x := fun x hx => (allV_ok (by rw [hall]; exact hx)).1
    have hs := hmem s (by simp)
    have hn1 := hok.n1
    have hnil : ∀ x, StOk f x → x ≠ [] := fun x hx e => by have := hx.len; rw [e] at this; simp at this; omega
    cases j with
    | succ j =>
      simp only [roadsF] at hy
      have := hr j (by simpa using hj) y (by simpa using hy)
      simpa using this
    | zero =>
      simp only [roadsF, List.getElem?_cons_zero, Option.some.injEq] at hy
      simp only [List.getElem?_cons_zero, Option.getD_some]
      by_cases he : s = to
      · subst he
        rw [if_pos rfl] at hy
        subst hy
        rw [bestV_eq rfl, if_pos rfl]
        exact ⟨fun h => by simp [Rs.fin] at h, fun _ => ⟨by decide, rfl, rfl⟩, fun _ h => absurd rfl h, fun _ _ => rfl⟩
      · rw [if_neg he] at hy
        subst hy
        rw [bestV_behind hs hto hall he]
        refine roadFold_ok hok hs r _ (pre.length + 1) Rs.no Rd.no (fun x hx => ?_) (fun j hj => ?_) (roadsF_len _ _) hr (RdOk.none _)
        · have := hmem x (by simp [hx])
          exact ⟨this, hnil x this⟩
        · rw [hall, show pre ++ s :: r = (pre ++ [s]) ++ r by simp, List.getElem?_append_right (by simp)]
          congr 1
          simp
end
section
def roadsV (f : Fl) (to : List Int) (bu : Int) : List Rd := roadsF f.times to bu (allV f) 0
theorem roadsV_len (f : Fl) (to : List Int) (bu : Int) : (roadsV f to bu).length = (allV f).length := roadsF_len _ _
theorem roadsV_ok {f : Fl} {to : List Int} {bu : Int} (hok : FlOk f) (hto : StOk f to) {j : Nat} (hj : j < (allV f).length) : RdOk (allV f) (bestV f to bu ((allV f)[j]?.getD [])) ((roadsV f to bu)[j]?.getD Rd.no) := by
  have hl : j < (roadsV f to bu).length := by rw [roadsV_len]; exact hj
  have h := roadsF_ok (bu := bu) hok hto (allV f) [] (by simp) j hj ((roadsV f to bu)[j]?.getD Rd.no) (by
    show (roadsV f to bu)[j]? = _
    simp [hl])
  exact h

/-- where the way goes on -/
theorem road_on {f : Fl} {to : List Int} {bu : Int} (hok : FlOk f) (hto : StOk f to) {s : List Int} {m : Rd} (hs : StOk f s) (hi : (bestV f to bu s).is = true) (hm : RdOk (allV f) (bestV f to bu s) m) :
    (m.nxt < 0 → s = to ∧ pathV f to bu s = []) ∧
    (¬ m.nxt < 0 → m.nxt.toNat < (allV f).length ∧ (m.nxt.toNat : Int) = m.nxt ∧ pathV f to bu s = (allV f)[m.nxt.toNat]?.getD [] :: pathV f to bu ((allV f)[m.nxt.toNat]?.getD []) ∧
      (bestV f to bu ((allV f)[m.nxt.toNat]?.getD [])).is = true ∧ StOk f ((allV f)[m.nxt.toNat]?.getD []) ∧ gap ((allV f)[m.nxt.toNat]?.getD []) to < gap s to) := by
  have hl : s.length = to.length := by rw [hs.len, hto.len]
  have hn1 := hok.n1
  by_cases he : s = to
  · subst he
    have hb : (bestV f s bu s).nxt = [] := by rw [bestV_eq rfl, if_pos rfl]; rfl
    have hn := hm.nn hi hb
    exact ⟨fun _ => ⟨rfl, pathV_end _ _ _⟩, fun h => absurd (by rw [hn]; decide) h⟩
  · obtain ⟨h1, h2, h3⟩ := bestV_next hl he hi
    have hbt := enum_between h1
    have hsx := hs.btw hto hbt.1
    have hne : (bestV f to bu s).nxt ≠ [] := fun e => by have := hsx.len; rw [e] at this; simp at this; omega
    obtain ⟨k1, k2, k3⟩ := hm.nx hi hne
    refine ⟨fun h => by omega, fun _ => ?_⟩
    rw [k3]
    exact ⟨k2, Int.toNat_of_nonneg k1, pathV_step hl he hi, h3, hsx, (next_gap hl he hi).1⟩

/-- the reference's plan finds a way exactly if the planner does -/
def idxV (L : List (List Int)) (s : List Int) : Nat := L.findIdx (fun x => decide (x = s))
theorem idxV_at {L : List (List Int)} {s : List Int} (h : s ∈ L) : idxV L s < L.length ∧ L[idxV L s]?.getD [] = s := by
  have hlt : idxV L s < L.length := List.findIdx_lt_length_of_exists ⟨s, h, by simp⟩
  refine ⟨hlt, ?_⟩
  have := List.findIdx_getElem (w := hlt)
  simp only [decide_eq_true_eq] at this
  simp only [List.getElem?_eq_getElem hlt, Option.getD_some]
  exact this
theorem road_is {f : Fl} {b : Rs} {m : Rd} (hm : RdOk (allV f) b m) : (m.steps < 0 ↔ b.is = false) := by
  constructor
  · intro h
    cases hi : b.is with
    | false => rfl
    | true => have := (hm.yes hi).1; omega
  · intro h; rw [hm.no h]; decide
end
section
open Go.RowKit

theorem Try.agg114 (w : World) : (isAgg 114).run Try.prog w = .ok false w := by kernel_rfl
theorem Try.siz114 (w : World) : (sizeOf 114).run Try.prog w = .ok 1 w := by kernel_rfl
theorem Try.agg117 (w : World) : (isAgg 117).run Try.prog w = .ok true w := by kernel_rfl
theorem Try.siz117 (w : World) : (sizeOf 117).run Try.prog w = .ok 3 w := by kernel_rfl
theorem Try.bd117 (x y z : Int) (w : World) : (Instr.build 117 #[(0, .int .i64 x), (1, .int .i64 y), (2, .int .i64 z)]).run Try.prog w = .ok (.agg #[.int .i64 x, .int .i64 y, .int .i64 z]) w := by kernel_rfl
theorem Try.new117 (w : World) : (Instr.alloc 117 true (.tuple #[])).run Try.prog w = .ok (.pointer (some ⟨w.heap.size, 0, none⟩)) (w.alloc (.cells #[.int .i64 0, .int .i64 0, .int .i64 0] 117)) := by kernel_rfl
theorem Try.info117 : (Try.prog.info? 117).map (fun i => (i.zero, i.size, i.bytes)) = some (some (.agg #[.int .i64 0, .int .i64 0, .int .i64 0]), 3, 24) := by kernel_rfl

def rdv (R : Nat → Rd) (k : Nat) : Value := .int .i64 (if k % 3 = 0 then (R (k / 3)).steps else if k % 3 = 1 then (R (k / 3)).time else (R (k / 3)).nxt)
/-- a table of roads -/
def OwnRd (W : World) (b N : Nat) (R : Nat → Rd) : Prop := Y.Own W b (N * 3) (rdv R)
section
variable {W W' : World} {b N : Nat} {R : Nat → Rd}
theorem OwnRd.gr (h : OwnRd W b N R) (g : Gr W W') : OwnRd W' b N R := Y.Own.gr h g
theorem OwnRd.only {S : Nat → Prop} (h : OwnRd W b N R) (g : Only S W W') (hs : ¬ S b) : OwnRd W' b N R := Y.Own.only h g hs
theorem OwnRd.lt (h : OwnRd W b N R) : b < W.heap.size := Y.Own.lt h
theorem OwnRd.c0 (h : OwnRd W b N R) {j : Nat} (hj : j < N) : W.cell? ⟨b, j * 3, none⟩ = some (.int .i64 (R j).steps) := by
  have := Y.Own.cell h (k := j * 3) (by omega)
  rw [this]
  unfold rdv
  rw [if_pos (by omega), show j * 3 / 3 = j by omega]
theorem OwnRd.c1 (h : OwnRd W b N R) {j : Nat} (hj : j < N) : W.cell? ⟨b, j * 3 + 1, none⟩ = some (.int .i64 (R j).time) := by
  have := Y.Own.cell h (k := j * 3 + 1) (by omega)
  rw [this]
  unfold rdv
  rw [if_neg (by omega), if_pos (by omega), show (j * 3 + 1) / 3 = j by omega]
theorem OwnRd.c2 (h : OwnRd W b N R) {j : Nat} (hj : j < N) : W.cell? ⟨b, j * 3 + 2, none⟩ = some (.int .i64 (R j).nxt) := by
  have := Y.Own.cell h (k := j * 3 + 2) (by omega)
  rw [this]
  unfold rdv
  rw [if_neg (by omega), if_neg (by omega), show (j * 3 + 2) / 3 = j by omega]
def updR (R : Nat → Rd) (j : Nat) (r : Rd) : Nat → Rd := fun k => if k = j then r else R k
theorem OwnRd.st (h : OwnRd W b N R) {j : Nat} (x y z : Int) (hj : j < N) :
    ∃ W', (Instr.storeAt 117 (.pointer (some ⟨b, j * 3, none⟩)) (.agg #[.int .i64 x, .int .i64 y, .int .i64 z])).run Try.prog W = .ok () W' ∧ OwnRd W' b N (updR R j ⟨x, y, z⟩) ∧ Only (fun x => x = b) W W' := by
  obtain ⟨W', h1, h2, h3⟩ := Y.Own.st3 (t := 117) (k := j * 3) (x := x) (y := y) (z := z) h (Try.siz117 _) (by omega)
  refine ⟨W', h1, Y.Own.congr h2 (fun k hk => ?_), h3⟩
  show (if k = j * 3 + 2 then Value.int .i64 z else if k = j * 3 + 1 then Value.int .i64 y else if k = j * 3 then Value.int .i64 x else rdv R k) = rdv (updR R j ⟨x, y, z⟩) k
  unfold rdv updR
  by_cases e2 : k = j * 3 + 2
  · rw [if_pos e2, if_neg (by omega), if_neg (by omega), if_pos (by omega)]
  · rw [if_neg e2]
    by_cases e1 : k = j * 3 + 1
    · rw [if_pos e1, if_neg (by omega), if_pos (by omega), if_pos (by omega)]
    · rw [if_neg e1]
      by_cases e0 : k = j * 3
      · rw [if_pos e0, if_pos (by omega), if_pos (by omega)]
      · rw [if_neg e0]
        have : ¬ k / 3 = j := by omega
        simp only [if_neg this]
end
theorem make114 (W : World) (N : Nat) (hN : N ≤ 1000000) : ∃ W', (Instr.makeSlice 114 (.int .i64 (N : Int)) (.int .i64 (N : Int))).run Try.prog W = .ok (.slice (some ⟨W.heap.size, 0, none⟩) N N) W' ∧ OwnRd W' W.heap.size N (fun _ => ⟨0, 0, 0⟩) ∧ Gr W W' := by
  obtain ⟨i, hi, h0, h1, h2⟩ := info_parts Try.info117
  have hr := run_make (P := Try.prog) W 114 117 i _ Try.underlying114 hi h0 .i64 .i64 N N (by omega) (Int.le_refl _) (by rw [h2]; omega) (by omega)
  simp only [Int.toNat_natCast, h1] at hr
  refine ⟨_, hr, ?_, Gr.alloc _ _⟩
  refine Y.Own.new (World.alloc_heap_new _ _) (size_madeCells _ _) (fun k hk => ?_)
  unfold madeCells rdv
  simp only [Value.cells, Array.getElem?_map]
  rw [Array.getElem?_eq_getElem (by simpa using hk)]
  have h3 : k % 3 = 0 ∨ k % 3 = 1 ∨ k % 3 = 2 := by omega
  rcases h3 with h | h | h <;> simp [h]

/-- the rows from z on are done -/
def tabR (f : Fl) (to : List Int) (bu : Int) (z : Nat) : Nat → Rd := fun k => if z ≤ k then (roadsV f to bu)[k]?.getD Rd.no else ⟨0, 0, 0⟩
/-- the best road over the first m states behind i -/
def pfR (f : Fl) (to : List Int) (bu : Int) (i : Nat) : Nat → Rd
  | 0 => Rd.no
  | m + 1 => roadStep f.times bu ((allV f)[i]?.getD []) (pfR f to bu i m) ((allV f)[i + 1 + m]?.getD []) ((roadsV f to bu)[i + 1 + m]?.getD Rd.no) (i + 1 + m)
theorem roadsF_drop {T : List (List Int)} {to : List Int} {bu : Int} : ∀ (L : List (List Int)) (k j : Nat), (roadsF T to bu L k).drop j = roadsF T to bu (L.drop j) (k + j) := by
  intro L
  induction L with
  | nil => intro k j; simp [roadsF]
  | cons s r ih =>
    intro k j
    cases j with
    | zero => rfl
    | succ j => simp only [roadsF, List.drop_succ_cons]; rw [ih (k + 1) j]; congr 1; omega
theorem roadFold_take {T : List (List Int)} {bu : Int} {s : List Int} : ∀ (m : Nat) (r : List (List Int)) (t : List Rd) (k : Nat) (b : Rd), m < r.length → t.length = r.length →
    roadFold T bu s b (r.take (m + 1)) (t.take (m + 1)) k = roadStep T bu s (roadFold T bu s b (r.take m) (t.take m) k) (r[m]?.getD []) (t[m]?.getD Rd.no) (k + m) := by
  intro m
  induction m with
  | zero =>
    intro r t k b h ht
    cases r with
    | nil => simp at h
    | cons x r => cases t with
      | nil => simp at ht
      | cons y t => simp [roadFold]
  | succ m ih =>
    intro r t k b h ht
    cases r with
    | nil => simp at h
    | cons x r => cases t with
      | nil => simp at ht
      | cons y t =>
        have := ih r t (k + 1) (roadStep T bu s b x y k) (by simpa using h) (by simpa using ht)
        simp only [List.take_succ_cons, roadFold]
        rw [this]
        simp only [List.getElem?_cons_succ]
        congr 1
        omega
theorem pfR_fold {f : Fl} {to : List Int} {bu : Int} {i : Nat} : ∀ (m : Nat), i + 1 + m ≤ (allV f).length →
    pfR f to bu i m = roadFold f.times bu ((allV f)[i]?.getD []) Rd.no (((allV f).drop (i + 1)).take m) (((roadsV f to bu).drop (i + 1)).take m) (i + 1) := by
  intro m
  induction m with
  | zero => intro _; simp [pfR, roadFold]
  | succ m ih =>
    intro h
    have hl := roadsV_len f to bu
    rw [roadFold_take m _ _ _ _ (by simp; omega) (by simp; omega), ← ih (by omega)]
    simp only [pfR, List.getElem?_drop]
theorem pfR_all {f : Fl} {to : List Int} {bu : Int} {i m : Nat} (h : i + 1 + m = (allV f).length) :
    (roadsV f to bu)[i]?.getD Rd.no = if (allV f)[i]?.getD [] = to then Rd.fin else pfR f to bu i m := by
  have hl := roadsV_len f to bu
  have hi : i < (allV f).length := by omega
  rw [pfR_fold m (by omega), List.take_of_length_le (by simp; omega), List.take_of_length_le (by simp; omega)]
  have h1 : (roadsV f to bu)[i]?.getD Rd.no = ((roadsV f to bu).drop i)[0]?.getD Rd.no := by simp
  have h3 : (roadsV f to bu).drop (i + 1) = roadsF f.times to bu ((allV f).drop (i + 1)) (i + 1) := by unfold roadsV; rw [roadsF_drop, Nat.zero_add]
  rw [h1, h3]
  unfold roadsV
  rw [roadsF_drop, Nat.zero_add, List.drop_eq_getElem_cons hi]
  simp [roadsF, hi]
theorem tab_step {f : Fl} {to : List Int} {bu : Int} {i : Nat} {r : Rd} (h : (roadsV f to bu)[i]?.getD Rd.no = r) : updR (tabR f to bu (i + 1)) i r = tabR f to bu i := by
  funext k
  unfold updR tabR
  by_cases e : k = i
  · subst e; rw [if_pos rfl, if_pos (Nat.le_refl _), h]
  · rw [if_neg e]
    by_cases h2 : i ≤ k
    · rw [if_pos (by omega), if_pos h2]
    · rw [if_neg (by omega), if_neg h2]
theorem updR_twice (R : Nat → Rd) (i : Nat) (r s : Rd) : updR (updR R i r) i s = updR R i s := by
  funext k
  unfold updR
  by_cases e : k = i
  · rw [if_pos e, if_pos e]
  · rw [if_neg e, if_neg e, if_neg e]
theorem updR_self (R : Nat → Rd) (i : Nat) (r : Rd) : updR R i r i = r := if_pos rfl
theorem updR_other (R : Nat → Rd) {i k : Nat} (r : Rd) (h : ¬ k = i) : updR R i r k = R k := if_neg h
theorem tabR_in {f : Fl} {to : List Int} {bu : Int} {z k : Nat} (h : z ≤ k) : tabR f to bu z k = (roadsV f to bu)[k]?.getD Rd.no := if_pos h
theorem OwnRd.start {W : World} {b N : Nat} {f : Fl} {to : List Int} {bu : Int} (h : OwnRd W b N (fun _ => ⟨0, 0, 0⟩)) : OwnRd W b N (tabR f to bu N) :=
  Y.Own.congr h (fun k hk => by
    have : ¬ N ≤ k / 3 := by omega
    unfold rdv tabR
    simp only [if_neg this])
theorem OwnRd.done {W : World} {b N : Nat} {f : Fl} {to : List Int} {bu : Int} (h : OwnRd W b N (tabR f to bu 0)) : OwnRd W b N (fun k => (roadsV f to bu)[k]?.getD Rd.no) :=
  Y.Own.congr h (fun k _ => by
    unfold rdv tabR
    simp only [Nat.zero_le, if_true])
/-- a slice of roads -/
def MP.rds (N : Nat) (R : Nat → Rd) : Y.MP := ⟨fun v W => ∃ b, v = .slice (some ⟨b, 0, none⟩) N N ∧ OwnRd W b N R, fun _ _ _ ⟨b, h1, h2⟩ g => ⟨b, h1, h2.gr g⟩⟩
/-- bounds -/
structure RdBd (r : Rd) : Prop where
  s0 : -1 ≤ r.steps
  s1 : r.steps ≤ 18
  t0 : 0 ≤ r.time
  t1 : r.time ≤ 1080000
theorem RdOk.bd {L : List (List Int)} {b : Rs} {m : Rd} (h : RdOk L b m) (hb : b.Bd 18) : RdBd m := by
  cases hi : b.is with
  | false => rw [h.no hi]; exact ⟨by decide, by decide, by decide, by decide⟩
  | true =>
    obtain ⟨h1, h2, h3⟩ := h.yes hi
    have := hb.s0
    have := hb.s1
    have := hb.t0
    have := hb.t1
    exact ⟨by omega, by omega, by omega, by omega⟩
theorem roadsV_bd {f : Fl} {to : List Int} {bu : Int} (hok : FlOk f) (hto : StOk f to) {j : Nat} (hj : j < (allV f).length) : RdBd ((roadsV f to bu)[j]?.getD Rd.no) := by
  have h := roadsV_ok (bu := bu) hok hto hj
  refine h.bd (bestV_bd hok hto _ (allV_ok ?_).1)
  rw [List.getElem?_eq_getElem hj]; exact List.getElem_mem hj
end
section
open Go.RowKit

theorem Try.mk26 (n : Nat) (w : World) (hn : n ≤ 6) : (Instr.makeSlice 26 (.int .i64 (n : Int)) (.int .i64 (n : Int))).run Try.prog w = .ok (.slice (some ⟨w.heap.size, 0, none⟩) n n) (w.alloc (.cells (List.replicate n (.int .i64 0)).toArray 3)) := by
  obtain rfl | rfl | rfl | rfl | rfl | rfl | rfl : n = 0 ∨ n = 1 ∨ n = 2 ∨ n = 3 ∨ n = 4 ∨ n = 5 ∨ n = 6 := by omega
  all_goals kernel_rfl
theorem zeros_new {f : Fl} {n : Nat} (w : World) (hl : f.times.length = n) (h6 : n ≤ 6) : Ints (w.alloc (.cells (List.replicate n (.int .i64 0)).toArray 3)) (some ⟨w.heap.size, 0, none⟩) n (zeros f) := by
  subst hl
  refine ⟨by simp [zeros], by omega, fun j hj => ⟨⟨w.heap.size, 0, none⟩, rfl, by simp, ?_⟩⟩
  rw [addr_add0]
  exact cell_new (by simp [zeros, hj])
theorem newest_take {f : Fl} {n k : Nat} (hl : f.times.length = n) (hk : k < n) : (newestV f).take (k + 1) = (newestV f).take k ++ [(((f.times[k]?.getD []).length : Nat) : Int)] := by
  have h : k < (newestV f).length := by simp [newestV]; omega
  rw [List.take_succ_eq_append_getElem h]
  congr 2
  simp [newestV, show k < f.times.length by omega]
theorem newest_out {f : Fl} {n B : Nat} {w : World} {v : Value} {B' : Nat} (hB : B' ≤ B) (hO : OwnI w B v ((newestV f).take n)) (hl : f.times.length = n) (h6 : n ≤ 6) : (Y.MP.intsF B' n (newestV f)).p v w := by
  have e : (newestV f).take n = newestV f := by rw [List.take_of_length_le]; simp [newestV, hl]
  rw [e] at hO
  have hn : (newestV f).length = n := by simp [newestV, hl]
  have hN : ∀ ad k c, v = .slice (some ad) k c → B ≤ ad.block := fun ad k c e => by
    rcases hO.2 with ⟨e2, _⟩ | ⟨g, cap, cur, e2, h2, _⟩
    · rw [e2] at e; cases e
    · rw [e2] at e; injection e with e; injection e with e; subst e; exact h2
  obtain ⟨a, c, rfl, h, _⟩ := hO.ints (by omega)
  rw [hn] at h hN
  exact ⟨a, c, by rw [hn], h, fun ad e => by subst e; exact Nat.le_trans hB (hN ad _ _ rfl)⟩

set_option maxRecDepth 100000 in
set_option maxHeartbeats 400000 in
theorem oldest_any (B : Nat) (ta ca : Option Addr) (tn tc cn cc : Nat) (f : Fl) (w : World) (hok : FlOk f) (hf : FlAt w ta tn ca cn f) (hB : B ≤ w.heap.size) :
    Calls Try.prog 79 #[.agg #[.slice ta tn tc, .slice ca cn cc]] w fun e w' => ∃ v, e = .returned v ∧ (Y.MP.intsF B tn (zeros f)).p v w' ∧ Gr w w' := by
  have hl : f.times.length = tn := hf.t.len
  have h6 : tn ≤ 6 := by have := hok.n6; omega
  have G := Gr.refl w
  refine Y.calls 7 Try.func79 rfl rfl ?_
  intro ac F0
  have F : Fr ac 7 [(0, .agg #[.slice ta tn tc, .slice ca cn cc])] := F0.sub _ (by kernel_rfl)
  clear F0
  refine Y.seq ?_
  refine Y.lit (by kernel_rfl) ?_
  refine Y.pval F (X.w0 rfl) rfl (X.box rfl (F.ev 0 (.agg #[.slice ta tn tc, .slice ca cn cc]) (by kernel_rfl)) X.bx) ?_
  clear F ac
  intro ac F
  have g := Gr.alloc w (.cells #[.slice ta tn tc, .slice ca cn cc] 25)
  have hb := heap_alloc_new w (.cells #[.slice ta tn tc, .slice ca cn cc] 25)
  have hbl : w.heap.size < (w.alloc (.cells #[.slice ta tn tc, .slice ca cn cc] 25)).heap.size := by simp
  have hC2 : RCells (w.alloc (.cells #[.slice ta tn tc, .slice ca cn cc] 25)) [(⟨w.heap.size, 0, none⟩, .slice ta tn tc), (⟨w.heap.size, 1, none⟩, .slice ca cn cc)] := (RCells.nil w).box (b := w.heap.size) #[.slice ta tn tc, .slice ca cn cc] 25 rfl
  generalize w.alloc (.cells #[.slice ta tn tc, .slice ca cn cc] 25) = w3 at *
  replace G := G.trans g
  have hC := hC2
  clear hC2
  replace hf := hf.gr g
  clear g hb hbl
  refine Y.pval F (X.w0 rfl) rfl (X.assign rfl (X.kc (.slice none 0 0) rfl)) ?_
  clear F ac
  intro ac F
  refine Y.nil ?_
  replace F : Fr ac 7 [(0, .agg #[.slice ta tn tc, .slice ca cn cc]), (1, .pointer (some ⟨w.heap.size, 0, none⟩)), (2, .slice none 0 0)] := F.sub _ (by kernel_rfl)
  refine X.thenN ?_
  refine Y.seq ?_
  refine Y.lit (by kernel_rfl) ?_
  refine Y.pval F (X.w0 rfl) rfl (X.field rfl (F.ev 1 (.pointer (some ⟨w.heap.size, 0, none⟩)) (by kernel_rfl)) (X.fld Try.underlying25 rfl (Try.siz22 _) rfl rfl)) ?_
  clear F ac
  intro ac F
  refine Y.pval F (X.w0 rfl) rfl (X.load rfl (F.ev 3 (.pointer (some ⟨w.heap.size, 0, none⟩)) (by kernel_rfl)) (X.ld1 (Try.agg22 _) (hC.at 0 rfl))) ?_
  clear F ac
  intro ac F
  refine Y.pval F (X.w0 rfl) rfl (X.len1 Try.underlying22 rfl (F.ev 4 (.slice ta tn tc) (by kernel_rfl))) ?_
  clear F ac
  intro ac F
  refine Y.pval F (X.w0 rfl) rfl (Y.mk rfl (F.ev 5 (.int .i64 tn) (by kernel_rfl)) (F.ev 5 (.int .i64 tn) (by kernel_rfl)) (Try.mk26 tn _ (by omega))) ?_
  clear F ac
  intro ac F
  have g := Gr.alloc w3 (.cells (List.replicate tn (.int .i64 0)).toArray 3)
  have hI : Ints (w3.alloc (.cells (List.replicate tn (.int .i64 0)).toArray 3)) (some ⟨w3.heap.size, 0, none⟩) tn (zeros f) := zeros_new w3 hl h6
  have hN : Y.New B (some ⟨w3.heap.size, 0, none⟩) := fun ad e => by injection e with e; subst e; have := G.size; simp only; omega
  generalize w3.alloc (.cells (List.replicate tn (.int .i64 0)).toArray 3) = w4 at *
  replace G := G.trans g
  replace hC := hC.gr g
  replace hf := hf.gr g
  clear g
  refine Y.pval F (X.w0 rfl) rfl (X.assign rfl (F.ev 6 (.slice (some ⟨w3.heap.size, 0, none⟩) tn tn) (by kernel_rfl))) ?_
  clear F ac
  intro ac F
  refine Y.nil ?_
  replace F : Fr ac 7 [(0, .agg #[.slice ta tn tc, .slice ca cn cc]), (1, .pointer (some ⟨w.heap.size, 0, none⟩)), (2, .slice (some ⟨w3.heap.size, 0, none⟩) tn tn)] := F.sub _ (by kernel_rfl)
  refine X.thenN ?_
  refine Y.ret ?_
  exact Y.ret0 (v := .slice (some ⟨w3.heap.size, 0, none⟩) tn tn) F (Y.rs1 F rfl (by kernel_rfl)) ⟨_, rfl, ⟨_, _, rfl, hI, hN⟩, G⟩

set_option maxRecDepth 100000 in
set_option maxHeartbeats 400000 in
theorem newest_any (B : Nat) (ta ca : Option Addr) (tn tc cn cc : Nat) (f : Fl) (w : World) (hok : FlOk f) (hf : FlAt w ta tn ca cn f) (hB : B ≤ w.heap.size) :
    Calls Try.prog 80 #[.agg #[.slice ta tn tc, .slice ca cn cc]] w fun e w' => ∃ v, e = .returned v ∧ (Y.MP.intsF B tn (newestV f)).p v w' ∧ Gr w w' := by
  have hl : f.times.length = tn := hf.t.len
  have h6 : tn ≤ 6 := by have := hok.n6; omega
  have ht := hf.t
  have G := Gr.refl w
  refine Y.calls 19 Try.func80 rfl rfl ?_
  intro ac F0
  have F : Fr ac 19 [(0, .agg #[.slice ta tn tc, .slice ca cn cc])] := F0.sub _ (by kernel_rfl)
  clear F0
  refine Y.seq ?_
  refine Y.lit (by kernel_rfl) ?_
  refine Y.pval F (X.w0 rfl) rfl (X.box rfl (F.ev 0 (.agg #[.slice ta tn tc, .slice ca cn cc]) (by kernel_rfl)) X.bx) ?_
  clear F ac
  intro ac F
  have g := Gr.alloc w (.cells #[.slice ta tn tc, .slice ca cn cc] 25)
  have hb := heap_alloc_new w (.cells #[.slice ta tn tc, .slice ca cn cc] 25)
  have hbl : w.heap.size < (w.alloc (.cells #[.slice ta tn tc, .slice ca cn cc] 25)).heap.size := by simp
  have hC2 : RCells (w.alloc (.cells #[.slice ta tn tc, .slice ca cn cc] 25)) [(⟨w.heap.size, 0, none⟩, .slice ta tn tc), (⟨w.heap.size, 1, none⟩, .slice ca cn cc)] := (RCells.nil w).box (b := w.heap.size) #[.slice ta tn tc, .slice ca cn cc] 25 rfl
  generalize w.alloc (.cells #[.slice ta tn tc, .slice ca cn cc] 25) = w3 at *
  replace G := G.trans g
  have hC := hC2
  clear hC2
  replace hf := hf.gr g
  replace ht := ht.gr g
  clear g hb hbl
  refine Y.pval F (X.w0 rfl) rfl (X.assign rfl (X.kc (.slice none 0 0) rfl)) ?_
  clear F ac
  intro ac F
  refine Y.nil ?_
  replace F : Fr ac 19 [(0, .agg #[.slice ta tn tc, .slice ca cn cc]), (1, .pointer (some ⟨w.heap.size, 0, none⟩)), (2, .slice none 0 0)] := F.sub _ (by kernel_rfl)
  refine X.thenN ?_
  refine Y.seq ?_
  refine Y.seq ?_
  refine Y.lit (by kernel_rfl) ?_
  refine Y.pval F (X.w0 rfl) rfl (X.field rfl (F.ev 1 (.pointer (some ⟨w.heap.size, 0, none⟩)) (by kernel_rfl)) (X.fld Try.underlying25 rfl (Try.siz22 _) rfl rfl)) ?_
  clear F ac
  intro ac F
  refine Y.pval F (X.w0 rfl) rfl (X.load rfl (F.ev 5 (.pointer (some ⟨w.heap.size, 0, none⟩)) (by kernel_rfl)) (X.ld1 (Try.agg22 _) (hC.at 0 rfl))) ?_
  clear F ac
  intro ac F
  refine Y.pval F (X.w0 rfl) rfl (X.len1 Try.underlying22 rfl (F.ev 6 (.slice ta tn tc) (by kernel_rfl))) ?_
  clear F ac
  intro ac F
  refine Y.pval F (X.w0 rfl) rfl (X.move rfl (X.kc (.int .i64 0) rfl)) ?_
  clear F ac
  intro ac F
  refine Y.nil ?_
  replace F : Fr ac 19 [(0, .agg #[.slice ta tn tc, .slice ca cn cc]), (1, .pointer (some ⟨w.heap.size, 0, none⟩)), (2, .slice none 0 0), (6, .slice ta tn tc), (7, .int .i64 tn), (8, .int .i64 0)] := F.sub _ (by kernel_rfl)
  refine X.thenN ?_
  refine Y.block ?_
  have hfB := hf
  have htB := ht
  have hCB := hC
  have GB := G
  refine Y.loop (fun me_ ac wr => ∃ (k : Nat) (vv : Value), me_ = tn - k ∧ Gr w3 wr ∧ k ≤ tn ∧ OwnI wr w3.heap.size vv ((newestV f).take k) ∧ Fr ac 19 [(0, .agg #[.slice ta tn tc, .slice ca cn cc]), (1, .pointer (some ⟨w.heap.size, 0, none⟩)), (2, vv), (6, .slice ta tn tc), (7, .int .i64 tn), (8, .int .i64 k)]) _ ⟨0, _, rfl, Gr.refl _, Nat.zero_le _, OwnI.nil _ _, F.sub _ (by kernel_rfl)⟩ ?_
  clear F
  intro me_ ac w4 hI
  obtain ⟨k, vv, rfl, gr, hk, hO, F⟩ := hI
  replace G := GB.trans gr
  replace hC := hCB.gr gr
  replace hf := hfB.gr gr
  replace ht := htB.gr gr
  have GB_ := gr
  clear gr
  refine Y.seq ?_
  refine Y.lit (by kernel_rfl) ?_
  refine Y.pval F (X.w0 rfl) rfl (X.binop rfl (F.ev 8 (.int .i64 k) (by kernel_rfl)) (F.ev 7 (.int .i64 tn) (by kernel_rfl)) (X.lssI Try.underlying3 rfl)) ?_
  clear F ac
  intro ac F
  refine Y.nil ?_
  replace F : Fr ac 19 [(0, .agg #[.slice ta tn tc, .slice ca cn cc]), (1, .pointer (some ⟨w.heap.size, 0, none⟩)), (2, vv), (6, .slice ta tn tc), (7, .int .i64 tn), (8, .int .i64 k), (9, .bool (decide ((k : Int) < tn)))] := F.sub _ (by kernel_rfl)
  refine X.thenN ?_
  refine Y.seq ?_
  cases h5 : decide ((k : Int) < tn) with
  | false =>
    try rw [h5] at F
    have h5p : ¬ ((k : Int) < tn) := of_decide_eq_false h5
    obtain rfl : tn = k := by omega
    refine Y.condF (F.ev 9 (.bool false) (by kernel_rfl)) ?_
    refine Y.exit ?_
    refine X.thenX ?_
    refine X.thenX ?_
    refine X.blockX ?_
    refine X.thenN ?_
    refine Y.seq ?_
    refine Y.lit (by kernel_rfl) ?_
    refine Y.pval F (X.w0 rfl) rfl (X.move rfl (F.ev 2 (vv) (by kernel_rfl))) ?_
    clear F ac
    intro ac F
    refine Y.pval F (X.w0 rfl) rfl (X.assign rfl (F.ev 18 (vv) (by kernel_rfl))) ?_
    clear F ac
    intro ac F
    refine Y.nil ?_
    replace F : Fr ac 19 [(0, .agg #[.slice ta tn tc, .slice ca cn cc]), (1, .pointer (some ⟨w.heap.size, 0, none⟩)), (2, vv), (6, .slice ta tn tc), (7, .int .i64 tn), (8, .int .i64 tn), (9, .bool false)] := F.sub _ (by kernel_rfl)
    refine X.thenN ?_
    refine Y.ret ?_
    exact Y.ret0 (v := vv) F (Y.rs1 F rfl (by kernel_rfl)) ⟨_, rfl, newest_out (by have := GB.size; omega) hO hl (by omega), G⟩
  | true =>
    try rw [h5] at F
    have h5p : ((k : Int) < tn) := of_decide_eq_true h5
    have hk1 : k < tn := by omega
    refine Y.condT (F.ev 9 (.bool true) (by kernel_rfl)) ?_
    refine Y.skip ?_
    refine X.thenN ?_
    refine Y.seq ?_
    refine Y.block ?_
    refine Y.seq ?_
    refine Y.lit (by kernel_rfl) ?_
    obtain ⟨pd6, pa6, rn6, pq6, pe6, -, pc6, pi6⟩ := ht.at (j := k) (by omega)
    subst pe6
    replace hC : RCells w4 [(⟨w.heap.size, 0, none⟩, .slice (some pd6) tn tc), (⟨w.heap.size, 1, none⟩, .slice ca cn cc), (pd6.add k, .slice pa6 rn6 pq6)] := hC.append ((RCells.cons pc6 (RCells.nil _)))
    clear pc6
    refine Y.pval F (X.w0 rfl) rfl (X.index rfl (F.ev 6 (.slice (some pd6) tn tc) (by kernel_rfl)) (F.ev 8 (.int .i64 k) (by kernel_rfl)) (X.idx Try.underlying22 (Try.siz26 _) (by omega) (by omega) (by rw [Nat.mul_one]))) ?_
    clear F ac
    intro ac F
    refine Y.pval F (X.w0 rfl) rfl (X.load rfl (F.ev 10 (.pointer (some (pd6.add k))) (by kernel_rfl)) (X.ld1 (Try.agg26 _) (hC.at 2 rfl))) ?_
    clear F ac
    intro ac F
    refine Y.pval F (X.w0 rfl) rfl (X.assign rfl (F.ev 11 (.slice pa6 rn6 pq6) (by kernel_rfl))) ?_
    clear F ac
    intro ac F
    refine Y.nil ?_
    replace F : Fr ac 19 [(0, .agg #[.slice (some pd6) tn tc, .slice ca cn cc]), (1, .pointer (some ⟨w.heap.size, 0, none⟩)), (2, vv), (4, .slice pa6 rn6 pq6), (6, .slice (some pd6) tn tc), (7, .int .i64 tn), (8, .int .i64 k), (9, .bool true)] := F.sub _ (by kernel_rfl)
    refine X.thenN ?_
    refine Y.lit (by kernel_rfl) ?_
    refine Y.pval F (X.w0 rfl) rfl (X.move rfl (F.ev 2 (vv) (by kernel_rfl))) ?_
    clear F ac
    intro ac F
    refine Y.pval F (X.w0 rfl) rfl (X.move rfl (F.ev 4 (.slice pa6 rn6 pq6) (by kernel_rfl))) ?_
    clear F ac
    intro ac F
    refine Y.pval F (X.w0 rfl) rfl (X.len1 Try.underlying26 rfl (F.ev 13 (.slice pa6 rn6 pq6) (by kernel_rfl))) ?_
    clear F ac
    intro ac F
    refine Y.pval F (X.w0 rfl) rfl (X.bs rfl (X.b1 (F.ev 14 (.int .i64 rn6) (by kernel_rfl))) (Try.bs26a _ _)) ?_
    clear F ac
    intro ac F
    have g := Gr.alloc w4 (.cells #[.int .i64 rn6] 3)
    have hb := heap_alloc_new w4 (.cells #[.int .i64 rn6] 3)
    have hbl : w4.heap.size < (w4.alloc (.cells #[.int .i64 rn6] 3)).heap.size := by simp
    generalize w4.alloc (.cells #[.int .i64 rn6] 3) = w7 at *
    replace G := G.trans g
    replace hC := hC.gr g
    replace GB_ := GB_.trans g
    replace hf := hf.gr g
    replace ht := ht.gr g
    replace hO := hO.gr g
    replace pi6 := pi6.gr g
    have hbk := hb
    clear g hb hbl
    refine Y.ppushI rfl rfl (F.ev 12 (vv) (by kernel_rfl)) (F.ev 15 (.slice (some ⟨w4.heap.size, 0, none⟩) 1 1) (by kernel_rfl)) hbk hO GB_ (by rw [List.length_take]; omega) ?_
    intro v' w8 hO' GB'
    refine Y.pput F rfl ?_
    clear F ac
    intro ac F
    refine Y.pval F (X.w0 rfl) rfl (X.assign rfl (F.ev 16 (v') (by kernel_rfl))) ?_
    clear F ac
    intro ac F
    refine Y.nil ?_
    replace F : Fr ac 19 [(0, .agg #[.slice (some pd6) tn tc, .slice ca cn cc]), (1, .pointer (some ⟨w.heap.size, 0, none⟩)), (2, v'), (4, .slice pa6 rn6 pq6), (6, .slice (some pd6) tn tc), (7, .int .i64 tn), (8, .int .i64 k), (9, .bool true)] := F.sub _ (by kernel_rfl)
    refine X.blockN ?_
    refine X.thenN ?_
    refine Y.lit (by kernel_rfl) ?_
    refine Y.pval F (X.w0 rfl) rfl (X.binop rfl (F.ev 8 (.int .i64 k) (by kernel_rfl)) (X.kc (.int .i64 1) rfl) (X.addI Try.underlying3 rfl (by omega) (by omega))) ?_
    clear F ac
    intro ac F
    refine Y.pval F (X.w0 rfl) rfl (X.move rfl (F.ev 17 (.int .i64 ((k : Int) + 1)) (by kernel_rfl))) ?_
    clear F ac
    intro ac F
    refine Y.nil ?_
    replace F : Fr ac 19 [(0, .agg #[.slice (some pd6) tn tc, .slice ca cn cc]), (1, .pointer (some ⟨w.heap.size, 0, none⟩)), (2, v'), (4, .slice pa6 rn6 pq6), (6, .slice (some pd6) tn tc), (7, .int .i64 tn), (8, .int .i64 ((k : Int) + 1)), (9, .bool true)] := F.sub _ (by kernel_rfl)
    refine X.thenN ?_
    refine ⟨_, ?_, k + 1, v', rfl, GB', by omega, by rw [newest_take hl hk1, pi6.len]; exact hO', F.sub _ (by kernel_rfl)⟩
    omega
end
section
open Go.RowKit

theorem allV_enum0 {f : Fl} {n : Nat} (hl : f.times.length = n) : allV f = enum f (zeros f) (newestV f) n [] := by rw [allV_enum, hl]
theorem Try.new3 (w : World) : (Instr.alloc 3 true (.tuple #[])).run Try.prog w = .ok (.pointer (some ⟨w.heap.size, 0, none⟩)) (w.alloc (.cells #[.int .i64 0] 3)) := by kernel_rfl
theorem Try.new26 (w : World) : (Instr.alloc 26 true (.tuple #[])).run Try.prog w = .ok (.pointer (some ⟨w.heap.size, 0, none⟩)) (w.alloc (.cells #[.slice none 0 0] 26)) := by kernel_rfl

set_option maxRecDepth 100000 in
set_option maxHeartbeats 400000 in
theorem count_any (ta ca : Option Addr) (tn tc cn cc : Nat) (f : Fl) (w : World) (hf : FlAt w ta tn ca cn f) :
    Calls Try.prog 40 #[.agg #[.slice ta tn tc, .slice ca cn cc]] w fun e w' => e = .returned (.tuple #[.int .i64 (cntV f), .int .i64 (chkE f)]) ∧ Gr w w' := by
  have hf0 := hf
  have hl : f.times.length = tn := hf.t.len
  have G := Gr.refl w
  refine Y.calls 20 Try.func40 rfl rfl ?_
  intro ac F0
  have F : Fr ac 20 [(0, .agg #[.slice ta tn tc, .slice ca cn cc])] := F0.sub _ (by kernel_rfl)
  clear F0
  refine Y.seq ?_
  refine Y.lit (by kernel_rfl) ?_
  refine Y.pval F (X.w0 rfl) rfl (X.box rfl (F.ev 0 (.agg #[.slice ta tn tc, .slice ca cn cc]) (by kernel_rfl)) X.bx) ?_
  clear F ac
  intro ac F
  have g := Gr.alloc w (.cells #[.slice ta tn tc, .slice ca cn cc] 25)
  have hb := heap_alloc_new w (.cells #[.slice ta tn tc, .slice ca cn cc] 25)
  have hbl : w.heap.size < (w.alloc (.cells #[.slice ta tn tc, .slice ca cn cc] 25)).heap.size := by simp
  have hC2 : RCells (w.alloc (.cells #[.slice ta tn tc, .slice ca cn cc] 25)) [(⟨w.heap.size, 0, none⟩, .slice ta tn tc), (⟨w.heap.size, 1, none⟩, .slice ca cn cc)] := (RCells.nil w).box (b := w.heap.size) #[.slice ta tn tc, .slice ca cn cc] 25 rfl
  generalize w.alloc (.cells #[.slice ta tn tc, .slice ca cn cc] 25) = w3 at *
  replace G := G.trans g
  have hC := hC2
  clear hC2
  replace hf := hf.gr g
  clear g hb hbl
  refine Y.pval F (X.w0 rfl) rfl (Y.al rfl (Try.new3 _)) ?_
  clear F ac
  intro ac F
  have hge := G.size
  have g := Gr.alloc w3 (.cells #[.int .i64 0] 3)
  have hb := heap_alloc_new w3 (.cells #[.int .i64 0] 3)
  have hbl : w3.heap.size < (w3.alloc (.cells #[.int .i64 0] 3)).heap.size := by simp
  have hC2 : RCells (w3.alloc (.cells #[.int .i64 0] 3)) [(⟨w.heap.size, 0, none⟩, .slice ta tn tc), (⟨w.heap.size, 1, none⟩, .slice ca cn cc), (⟨w3.heap.size, 0, none⟩, .int .i64 0)] := hC.box (b := w3.heap.size) #[.int .i64 0] 3 rfl
  generalize w3.alloc (.cells #[.int .i64 0] 3) = w4 at *
  replace G := G.trans g
  replace hC := hC2
  clear hC2
  replace hf := hf.gr g
  have hz := Y.Fz.new hb
  clear g hb hbl
  refine Y.pval F (X.w0 rfl) rfl (X.assign rfl (X.kc (.int .i64 0) rfl)) ?_
  clear F ac
  intro ac F
  refine Y.nil ?_
  replace F : Fr ac 20 [(0, .agg #[.slice ta tn tc, .slice ca cn cc]), (1, .pointer (some ⟨w.heap.size, 0, none⟩)), (2, .pointer (some ⟨w3.heap.size, 0, none⟩)), (3, .int .i64 0)] := F.sub _ (by kernel_rfl)
  refine X.thenN ?_
  refine Y.seq ?_
  refine Y.seq ?_
  refine Y.lit (by kernel_rfl) ?_
  refine Y.pval F (X.w0 rfl) rfl (X.load rfl (F.ev 1 (.pointer (some ⟨w.heap.size, 0, none⟩)) (by kernel_rfl)) (X.ldN (Try.agg25 _) (Try.siz25 _) (X.c2 (hC.at 0 rfl) (hC.at 1 rfl)))) ?_
  clear F ac
  intro ac F
  refine Y.pcall F (X.w0 rfl) rfl (X.enter (F := 36) rfl (X.kc (.func (.func 36) #[] #[]) rfl) (X.a1 (F.ev 5 (.agg #[.slice ta tn tc, .slice ca cn cc]) (by kernel_rfl))) (enters_of Try.func36 (by kernel_rfl) rfl _)) (check_any ta ca tn tc cn cc f w4 hf) ?_
  clear F ac
  rintro e w6 ⟨rfl, g⟩
  refine ⟨_, rfl, ?_⟩
  intro ac F
  replace G := G.trans g
  replace hC := hC.gr g
  replace hf := hf.gr g
  replace hz := hz.gr g
  clear g
  refine Y.pval F (X.w0 rfl) rfl (X.assign rfl (F.ev 6 (.int .i64 (chkE f)) (by kernel_rfl))) ?_
  clear F ac
  intro ac F
  refine Y.nil ?_
  replace F : Fr ac 20 [(0, .agg #[.slice ta tn tc, .slice ca cn cc]), (1, .pointer (some ⟨w.heap.size, 0, none⟩)), (2, .pointer (some ⟨w3.heap.size, 0, none⟩)), (3, .int .i64 0), (4, .int .i64 (chkE f))] := F.sub _ (by kernel_rfl)
  refine X.thenN ?_
  refine Y.seq ?_
  refine Y.lit (by kernel_rfl) ?_
  refine Y.pval F (X.w0 rfl) rfl (X.move rfl (F.ev 4 (.int .i64 (chkE f)) (by kernel_rfl))) ?_
  clear F ac
  intro ac F
  refine Y.pval F (X.w0 rfl) rfl (X.binop rfl (F.ev 7 (.int .i64 (chkE f)) (by kernel_rfl)) (X.kc (.int .i64 0) rfl) (X.neqI Try.underlying31 rfl)) ?_
  clear F ac
  intro ac F
  refine Y.nil ?_
  replace F : Fr ac 20 [(0, .agg #[.slice ta tn tc, .slice ca cn cc]), (1, .pointer (some ⟨w.heap.size, 0, none⟩)), (2, .pointer (some ⟨w3.heap.size, 0, none⟩)), (3, .int .i64 0), (4, .int .i64 (chkE f)), (8, .bool ((chkE f : Int) != 0))] := F.sub _ (by kernel_rfl)
  refine X.thenN ?_
  cases h7 : ((chkE f : Int) != 0) with
  | false =>
    try rw [h7] at F
    have h7p : (chkE f : Int) = 0 := by simpa using h7
    have hok : FlOk f := chkB_ok (chkE_zero h7p)
    have HE : chkE f = 0 := h7p
    refine Y.condF (F.ev 8 (.bool false) (by kernel_rfl)) ?_
    refine Y.skip ?_
    refine X.thenN ?_
    refine Y.seq ?_
    refine Y.seq ?_
    have hbB := hz.1
    refine Y.region F [some (.agg #[.slice ta tn tc, .slice ca cn cc]), some (.agg #[.slice ta tn tc, .slice ca cn cc]), none, some (.agg #[.slice ta tn tc, .slice ca cn cc]), none, none] [(2, Y.MP.intsF w6.heap.size tn (zeros f)), (4, Y.MP.intsF w6.heap.size tn (newestV f)), (5, Y.MP.iter w6.heap.size ta tn tc ca cn cc tn (zeros f) (newestV f) (Y.New w6.heap.size) (Y.New w6.heap.size))] rfl ⟨by kernel_rfl, of_decide_eq_true (by kernel_rfl), by kernel_rfl, by kernel_rfl, by kernel_rfl⟩ ⟨?_, ?_, ?_, ?_, ?_, ?_, trivial⟩ ?_
    · intro ac done u W Sx hR
      have g : Gr w6 W := hR.1
      exact X.val (X.w0 rfl) rfl (X.load rfl (Sx.ev 1 (.pointer (some ⟨w.heap.size, 0, none⟩)) (by kernel_rfl)) (X.ldN (Try.agg25 _) (Try.siz25 _) (X.c2 ((hC.gr g).at 0 rfl) ((hC.gr g).at 1 rfl)))) (hR.step (Gr.refl _) rfl)
    · intro ac done u W Sx hR
      have g : Gr w6 W := hR.1
      exact X.val (X.w0 rfl) rfl (X.load rfl (Sx.ev 1 (.pointer (some ⟨w.heap.size, 0, none⟩)) (by kernel_rfl)) (X.ldN (Try.agg25 _) (Try.siz25 _) (X.c2 ((hC.gr g).at 0 rfl) ((hC.gr g).at 1 rfl)))) (hR.step (Gr.refl _) rfl)
    · intro ac done u W Sx hR
      have g : Gr w6 W := hR.1
      refine X.call (X.w0 rfl) (X.enter (F := 79) rfl (X.kc (.func (.func 79) #[] #[]) rfl) (X.a1 (Sx.ev 11 (.agg #[.slice ta tn tc, .slice ca cn cc]) (by kernel_rfl))) (enters_of Try.func79 (by kernel_rfl) rfl _)) (oldest_any w6.heap.size ta ca tn tc cn cc f W hok (hf.gr g) g.size) ?_
      rintro e W2 ⟨v, rfl, hp, g2⟩
      exact ⟨_, rfl, X.un rfl, hR.new (q := Y.MP.intsF w6.heap.size tn (zeros f)) g2 rfl hp⟩
    · intro ac done u W Sx hR
      have g : Gr w6 W := hR.1
      exact X.val (X.w0 rfl) rfl (X.load rfl (Sx.ev 1 (.pointer (some ⟨w.heap.size, 0, none⟩)) (by kernel_rfl)) (X.ldN (Try.agg25 _) (Try.siz25 _) (X.c2 ((hC.gr g).at 0 rfl) ((hC.gr g).at 1 rfl)))) (hR.step (Gr.refl _) rfl)
    · intro ac done u W Sx hR
      have g : Gr w6 W := hR.1
      refine X.call (X.w0 rfl) (X.enter (F := 80) rfl (X.kc (.func (.func 80) #[] #[]) rfl) (X.a1 (Sx.ev 13 (.agg #[.slice ta tn tc, .slice ca cn cc]) (by kernel_rfl))) (enters_of Try.func80 (by kernel_rfl) rfl _)) (newest_any w6.heap.size ta ca tn tc cn cc f W hok (hf.gr g) g.size) ?_
      rintro e W2 ⟨v, rfl, hp, g2⟩
      exact ⟨_, rfl, X.un rfl, hR.new (q := Y.MP.intsF w6.heap.size tn (newestV f)) g2 rfl hp⟩
    · intro ac done u W Sx hR
      have g : Gr w6 W := hR.1
      obtain ⟨ra8, rc8, e2, hI8, hN8⟩ := hR.get (i := 2) (Y.MP.intsF w6.heap.size tn (zeros f)) rfl (Sx.an 2 (by kernel_rfl))
      obtain ⟨ra9, rc9, e4, hI9, hN9⟩ := hR.get (i := 4) (Y.MP.intsF w6.heap.size tn (newestV f)) rfl (Sx.an 4 (by kernel_rfl))
      refine X.call (X.w0 rfl) (X.enter (F := 59) rfl (X.kc (.func (.func 59) #[] #[]) rfl) (X.a3 (Sx.ev 10 (.agg #[.slice ta tn tc, .slice ca cn cc]) (by kernel_rfl)) ((Sx.own 2 12 rfl).trans e2) ((Sx.own 4 14 rfl).trans e4)) (enters_of Try.func59 (by kernel_rfl) rfl _)) (Y.states_iter w6.heap.size (Y.New w6.heap.size) (Y.New w6.heap.size) ta ca ra8 ra9 tn tc cn cc tn rc8 rc9 (zeros f) (newestV f) W hI8 hI9 hN8 hN9 g.size) ?_
      rintro e W2 ⟨v, rfl, hp, g2⟩
      exact ⟨_, rfl, X.un rfl, hR.new (q := Y.MP.iter w6.heap.size ta tn tc ca cn cc tn (zeros f) (newestV f) (Y.New w6.heap.size) (Y.New w6.heap.size)) g2 rfl hp⟩
    intro ac u w11 hs hd hl ho hR
    have g : Gr w6 w11 := hR.1
    obtain ⟨ra8, rc8, e2, hI8, hN8⟩ := hR.get (i := 2) (Y.MP.intsF w6.heap.size tn (zeros f)) rfl rfl
    obtain ⟨ra9, rc9, e4, hI9, hN9⟩ := hR.get (i := 4) (Y.MP.intsF w6.heap.size tn (newestV f)) rfl rfl
    obtain ⟨ir10, il10, it10, ia10, ic10, ja10, jc10, e5, i010, i110, i210, i310, il410, il510, iN10, jN10, ib110, ib210, ib310⟩ := hR.get (i := 5) (Y.MP.iter w6.heap.size ta tn tc ca cn cc tn (zeros f) (newestV f) (Y.New w6.heap.size) (Y.New w6.heap.size)) rfl rfl
    replace F : Fr ac 20 [(0, .agg #[.slice ta tn tc, .slice ca cn cc]), (1, .pointer (some ⟨w.heap.size, 0, none⟩)), (2, .pointer (some ⟨w3.heap.size, 0, none⟩)), (3, .int .i64 0), (4, .int .i64 (chkE f)), (8, .bool false)] := X.fr hs hd hl _ (by kernel_rfl)
    replace F := F.add (ho 5 15 rfl) e5
    replace F : Fr ac 20 [(0, .agg #[.slice ta tn tc, .slice ca cn cc]), (1, .pointer (some ⟨w.heap.size, 0, none⟩)), (2, .pointer (some ⟨w3.heap.size, 0, none⟩)), (3, .int .i64 0), (4, .int .i64 (chkE f)), (8, .bool false), (15, .func (.func 90) #[] #[.pointer (some ⟨ir10, 0, none⟩), .pointer (some ⟨il10, 0, none⟩), .pointer (some ⟨it10, 0, none⟩)])] := F.sub _ (by kernel_rfl)
    clear e2 e4 e5
    clear hs hd hl ho hR
    replace G := G.trans g
    replace hC := hC.gr g
    replace hf := hf.gr g
    replace hz := hz.gr g
    clear g
    refine X.thenN ?_
    refine Y.block ?_
    have hbt : w3.heap.size < w11.heap.size := lt_cell (hC.at 2 rfl)
    have hSB := Y.sbase_all hok hf0 G (bn := w3.heap.size) hge hbB hl il410 iN10 il510 jN10
    have hRC : Y.RC w11 w3.heap.size (.int .i64 0) w11 := ⟨Only.refl _ _, hbt, hC.at 2 rfl, hz.2⟩
    replace F : Fr ac 20 [(0, .agg #[.slice ta tn tc, .slice ca cn cc]), (1, .pointer (some ⟨w.heap.size, 0, none⟩)), (2, .pointer (some ⟨w3.heap.size, 0, none⟩)), (3, .int .i64 0), (4, .int .i64 (chkE f)), (8, .bool false), (15, .func (.func 90) #[] #[.pointer (some ⟨ir10, 0, none⟩), .pointer (some ⟨il10, 0, none⟩), .pointer (some ⟨it10, 0, none⟩)])] := F.sub _ (by kernel_rfl)
    refine Y.range0 (wB := w11) (S := fun b => b = w3.heap.size ∨ w11.heap.size ≤ b) (Y := fun b => b = w3.heap.size) (f := f) (lo := zeros f) (hi := newestV f) F (by decide) (F.ev 15 _ (by kernel_rfl)) hSB (Only.refl _ _) (fun b h => .inl h) (fun b (h : b = w3.heap.size) => by omega) i210 i010 i110 i310 (by omega) (by omega) (by omega) (fun done W => Y.RC w11 w3.heap.size (.int .i64 (done.length : Nat)) W) hRC (fun xs W W2 h g => h.keep (Nat.le_refl _) g) ?_ ?_
    · have GA := G
      clear F ac G hC hRC
      intro pre x ad c w12 ac hI _ hx hax _ hmem hsx hwx F
      obtain ⟨rest, hall⟩ := hmem
      have hlen := allV_len hok
      rw [allV_enum0 hl, hall, List.length_append, List.length_cons] at hlen
      have G := Gr.refl w12
      replace F : Fr ac 20 [(0, .agg #[.slice ta tn tc, .slice ca cn cc]), (1, .pointer (some ⟨w.heap.size, 0, none⟩)), (2, .pointer (some ⟨w3.heap.size, 0, none⟩)), (3, .int .i64 0), (4, .int .i64 (chkE f)), (8, .bool false), (15, .func (.func 90) #[] #[.pointer (some ⟨ir10, 0, none⟩), .pointer (some ⟨il10, 0, none⟩), .pointer (some ⟨it10, 0, none⟩)])] := F.sub _ (by kernel_rfl)
      have hC : RCells w12 [(⟨w3.heap.size, 0, none⟩, .int .i64 (pre.length : Nat))] := RCells.cons hI.c (RCells.nil _)
      refine Y.block ?_
      refine Y.lit (by kernel_rfl) ?_
      refine Y.pval F (X.w0 rfl) rfl (X.load rfl (F.ev 2 (.pointer (some ⟨w3.heap.size, 0, none⟩)) (by kernel_rfl)) (X.ld1 (Try.agg3 _) (hC.at 0 rfl))) ?_
      clear F ac
      intro ac F
      refine Y.pval F (X.w0 rfl) rfl (X.binop rfl (F.ev 17 (.int .i64 pre.length) (by kernel_rfl)) (X.kc (.int .i64 1) rfl) (X.addI Try.underlying3 rfl (by omega) (by omega))) ?_
      clear F ac
      intro ac F
      refine Y.punit F (X.w0 rfl) rfl (X.store rfl (F.ev 2 (.pointer (some ⟨w3.heap.size, 0, none⟩)) (by kernel_rfl)) (F.ev 18 (.int .i64 ((pre.length : Int) + 1)) (by kernel_rfl)) (Y.st1 (Try.siz3 _) rfl rfl (hI.gr G).c (hI.gr G).fz)) ?_
      clear F ac
      intro ac F
      refine Y.nil ?_
      replace F : Fr ac 20 [(0, .agg #[.slice ta tn tc, .slice ca cn cc]), (1, .pointer (some ⟨w.heap.size, 0, none⟩)), (2, .pointer (some ⟨w3.heap.size, 0, none⟩)), (3, .int .i64 0), (4, .int .i64 (chkE f)), (8, .bool false), (15, .func (.func 90) #[] #[.pointer (some ⟨ir10, 0, none⟩), .pointer (some ⟨il10, 0, none⟩), .pointer (some ⟨it10, 0, none⟩)])] := F.sub _ (by kernel_rfl)
      refine X.blockN ?_
      exact ⟨Y.RC.setOnly (hI.gr G) G _, by have := (hI.gr G).set (.int .i64 ((pre.length : Int) + 1)); simpa using this⟩
    have GA := G
    clear F ac
    intro w13 ac hI hk F
    rw [← allV_enum0 hl] at hI
    have hM : Y.RM w11 _ _ w13 := ⟨hI, hk⟩
    clear hI hk
    have hI := hM
    clear hM
    have hC : RCells w13 [(⟨w3.heap.size, 0, none⟩, .int .i64 ((allV f).length : Nat))] := RCells.cons hI.rc.c (RCells.nil _)
    refine X.blockN ?_
    refine X.thenN ?_
    refine Y.seq ?_
    refine Y.lit (by kernel_rfl) ?_
    refine Y.pval F (X.w0 rfl) rfl (X.load rfl (F.ev 2 (.pointer (some ⟨w3.heap.size, 0, none⟩)) (by kernel_rfl)) (X.ld1 (Try.agg3 _) (hC.at 0 rfl))) ?_
    clear F ac
    intro ac F
    refine Y.punit F (X.w0 rfl) rfl (X.store rfl (F.ev 2 (.pointer (some ⟨w3.heap.size, 0, none⟩)) (by kernel_rfl)) (F.ev 19 (.int .i64 ((allV f).length : Nat)) (by kernel_rfl)) (Y.st1 (Try.siz3 _) rfl rfl hI.rc.c hI.rc.fz)) ?_
    clear F ac
    intro ac F
    replace hI := hI.set (.int .i64 ((allV f).length : Nat))
    generalize w13.setCell _ _ = w99 at *
    refine Y.pval F (X.w0 rfl) rfl (X.assign rfl (X.kc (.int .i64 0) rfl)) ?_
    clear F ac
    intro ac F
    refine Y.nil ?_
    replace F : Fr ac 20 [(0, .agg #[.slice ta tn tc, .slice ca cn cc]), (1, .pointer (some ⟨w.heap.size, 0, none⟩)), (2, .pointer (some ⟨w3.heap.size, 0, none⟩)), (3, .int .i64 0), (4, .int .i64 (chkE f)), (8, .bool false), (15, .func (.func 90) #[] #[.pointer (some ⟨ir10, 0, none⟩), .pointer (some ⟨il10, 0, none⟩), .pointer (some ⟨it10, 0, none⟩)])] [{ target := .collected w11.heap.size, args := #[] }] := F.sub _ (by kernel_rfl)
    refine X.thenN ?_
    refine Y.ret ?_
    have HV : cntV f = ((allV f).length : Int) := by unfold cntV; rw [if_pos HE]
    exact hI.ret F rfl (fun _ => Try.agg3 _) (by kernel_rfl) (by kernel_rfl) (fun W2 h2 _ => ⟨by rw [HV, HE], h2.grow GA hge⟩)
  | true =>
    try rw [h7] at F
    have h7p : ¬ (chkE f : Int) = 0 := by simpa using h7
    have HV : cntV f = 0 := if_neg h7p
    refine Y.condT (F.ev 8 (.bool true) (by kernel_rfl)) ?_
    refine Y.seq ?_
    refine Y.lit (by kernel_rfl) ?_
    refine Y.pval F (X.w0 rfl) rfl (X.move rfl (F.ev 4 (.int .i64 (chkE f)) (by kernel_rfl))) ?_
    clear F ac
    intro ac F
    refine Y.punit F (X.w0 rfl) rfl (X.store rfl (F.ev 2 (.pointer (some ⟨w3.heap.size, 0, none⟩)) (by kernel_rfl)) (X.kc (.int .i64 0) rfl) (Y.st1 (Try.siz3 _) rfl rfl (hC.at 2 rfl) hz.2)) ?_
    clear F ac
    intro ac F
    replace G := G.setCell (p := ⟨w3.heap.size, 0, none⟩) hge (.int .i64 0)
    have hcv : (w6.setCell ⟨w3.heap.size, 0, none⟩ (.int .i64 0)).cell? ⟨w3.heap.size, 0, none⟩ = some (.int .i64 0) := by have := hC.at 2 rfl; simp [go_sem, this]
    clear hC hz
    generalize w6.setCell ⟨w3.heap.size, 0, none⟩ (.int .i64 0) = w14 at *
    refine Y.pval F (X.w0 rfl) rfl (X.assign rfl (F.ev 9 (.int .i64 (chkE f)) (by kernel_rfl))) ?_
    clear F ac
    intro ac F
    refine Y.nil ?_
    replace F : Fr ac 20 [(0, .agg #[.slice ta tn tc, .slice ca cn cc]), (1, .pointer (some ⟨w.heap.size, 0, none⟩)), (2, .pointer (some ⟨w3.heap.size, 0, none⟩)), (3, .int .i64 (chkE f)), (4, .int .i64 (chkE f)), (8, .bool true)] := F.sub _ (by kernel_rfl)
    refine X.thenN ?_
    refine Y.ret ?_
    refine X.thenR ?_
    exact Y.ret0 F (Y.rc2 F rfl (Try.agg3 _) (by kernel_rfl) hcv (by kernel_rfl)) ⟨by rw [HV], G⟩
end
end Go.Proofs.Ytlilojpnhmfnaaa
