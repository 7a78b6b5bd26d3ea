/- Several texts of this claim in one file. (1) Contract: the reference Count. (2) Plain law: the states come in ascending order; the newest one by both rules. (3) Plain law: the reference's table of roads holds the planner's rests. No program in sight. (4) Plain law: the roads lead the planner's way; the reference's plan; the binary search finds the least budget. No program in sight. (5) A table of roads in memory; the reference's table, row by row. (6) A list of states that a call collects, whose states were there before; where a state lies in a list; the roads' way on. (7) A table of bools of a call's own, beside a list of states that it collects. Nothing of the program is proved here. (8) A map of states that were seen; a list of states, with blocks that it keeps apart from. Nothing of the program is proved here. (9) The closures of states: the iterator, where a round turns new memory, too. (10) A range over states that may turn new memory, behind other ranges. Nothing of the program is proved here. (11) Plain law: what can be reached: by plans, by the reference's table, by a search. No program in sight. (12) Plain law: the search finds all that can be reached. No program in sight. -/
import Derived.Test.YtlilojpnhmfnaaaBd6
import Derived.Test.YtlilojpnhmfnaaaBd8
import Derived.Test.YtlilojpnhmfnaaaBd2
import Derived.Test.YtlilojpnhmfnaaaBd7
import Derived.Laws.MakeOwn
import Derived.Test.YtlilojpnhmfnaaaBd3
import Derived.Maps.AppendAt
import Derived.Laws.EntriesVeiled
namespace Go.Proofs.Ytlilojpnhmfnaaa
section
open Go.RowKit

theorem chkE_zero {f : Fl} (h : chkE f = 0) : chkB f = true := by
  unfold chkE at h
  split at h
  · assumption
  · cases h
def cntV (f : Fl) : Int := if chkE f = 0 then ((allV f).length : Int) else 0

set_option maxRecDepth 100000 in
set_option maxHeartbeats 400000 in
theorem count2_any (ta ca : Option Addr) (tn tc cn cc : Nat) (f : Fl) (w : World) (hf : FlAt w ta tn ca cn f) :
    Calls Try.prog 41 #[.agg #[.slice ta tn tc, .slice ca cn cc]] w fun e w' => e = .returned (.tuple #[.int .i64 (cntV f), .int .i64 (chkE f)]) ∧ Gr w w' := by
  have G := Gr.refl w
  refine X.calls 13 Try.func41 rfl rfl ?_
  intro ac F0
  have F : Fr ac 13 [(0, .agg #[.slice ta tn tc, .slice ca cn cc])] := F0.sub _ (by kernel_rfl)
  clear F0
  refine wp_seq ?_
  refine wp_region_lit ?_
  refine X.pval F (X.w0 rfl) rfl (X.box rfl (F.ev 0 (.agg #[.slice ta tn tc, .slice ca cn cc]) (by kernel_rfl)) X.bx) ?_
  clear F ac
  intro ac F
  have g := Gr.alloc w (.cells #[.slice ta tn tc, .slice ca cn cc] 25)
  have hb := heap_alloc_new w (.cells #[.slice ta tn tc, .slice ca cn cc] 25)
  have hbl : w.heap.size < (w.alloc (.cells #[.slice ta tn tc, .slice ca cn cc] 25)).heap.size := by simp
  have hC2 : RCells (w.alloc (.cells #[.slice ta tn tc, .slice ca cn cc] 25)) [(⟨w.heap.size, 0, none⟩, .slice ta tn tc), (⟨w.heap.size, 1, none⟩, .slice ca cn cc)] := (RCells.nil w).box (b := w.heap.size) #[.slice ta tn tc, .slice ca cn cc] 25 rfl
  generalize w.alloc (.cells #[.slice ta tn tc, .slice ca cn cc] 25) = w3 at *
  replace G := G.trans g
  have hC := hC2
  clear hC2
  replace hf := hf.gr g
  clear g hb hbl
  refine X.pval F (X.w0 rfl) rfl (X.assign rfl (X.kc (.int .i64 0) rfl)) ?_
  clear F ac
  intro ac F
  refine X.pval F (X.w0 rfl) rfl (X.assign rfl (X.kc (.int .i64 0) rfl)) ?_
  clear F ac
  intro ac F
  refine wpList_nil ?_
  replace F : Fr ac 13 [(0, .agg #[.slice ta tn tc, .slice ca cn cc]), (1, .pointer (some ⟨w.heap.size, 0, none⟩)), (2, .int .i64 0), (3, .int .i64 0)] := F.sub _ (by kernel_rfl)
  refine X.thenN ?_
  refine wp_seq ?_
  refine wp_seq ?_
  refine wp_region_lit ?_
  refine X.pval F (X.w0 rfl) rfl (X.load rfl (F.ev 1 (.pointer (some ⟨w.heap.size, 0, none⟩)) (by kernel_rfl)) (X.ldN (Try.agg25 _) (Try.siz25 _) (X.c2 (hC.at 0 rfl) (hC.at 1 rfl)))) ?_
  clear F ac
  intro ac F
  refine X.pcall F (X.w0 rfl) rfl (X.enter (F := 37) rfl (X.kc (.func (.func 37) #[] #[]) rfl) (X.a1 (F.ev 5 (.agg #[.slice ta tn tc, .slice ca cn cc]) (by kernel_rfl))) (enters_of Try.func37 (by kernel_rfl) rfl _)) (check2_any ta ca tn tc cn cc f w3 hf) ?_
  clear F ac
  rintro e w4 ⟨rfl, g⟩
  refine ⟨_, rfl, ?_⟩
  intro ac F
  replace G := G.trans g
  replace hC := hC.gr g
  replace hf := hf.gr g
  clear g
  refine X.pval F (X.w0 rfl) rfl (X.assign rfl (F.ev 6 (.int .i64 (chkE f)) (by kernel_rfl))) ?_
  clear F ac
  intro ac F
  refine wpList_nil ?_
  replace F : Fr ac 13 [(0, .agg #[.slice ta tn tc, .slice ca cn cc]), (1, .pointer (some ⟨w.heap.size, 0, none⟩)), (2, .int .i64 0), (3, .int .i64 0), (4, .int .i64 (chkE f))] := F.sub _ (by kernel_rfl)
  refine X.thenN ?_
  refine wp_seq ?_
  refine wp_region_lit ?_
  refine X.pval F (X.w0 rfl) rfl (X.move rfl (F.ev 4 (.int .i64 (chkE f)) (by kernel_rfl))) ?_
  clear F ac
  intro ac F
  refine X.pval F (X.w0 rfl) rfl (X.binop rfl (F.ev 7 (.int .i64 (chkE f)) (by kernel_rfl)) (X.kc (.int .i64 0) rfl) (X.neqI Try.underlying31 rfl)) ?_
  clear F ac
  intro ac F
  refine wpList_nil ?_
  replace F : Fr ac 13 [(0, .agg #[.slice ta tn tc, .slice ca cn cc]), (1, .pointer (some ⟨w.heap.size, 0, none⟩)), (2, .int .i64 0), (3, .int .i64 0), (4, .int .i64 (chkE f)), (8, .bool ((chkE f : Int) != 0))] := F.sub _ (by kernel_rfl)
  refine X.thenN ?_
  cases h5 : ((chkE f : Int) != 0) with
  | false =>
    try rw [h5] at F
    have h5p : (chkE f : Int) = 0 := by simpa using h5
    have hok : FlOk f := chkB_ok (chkE_zero h5p)
    refine wp_cond_false (F.ev 8 (.bool false) (by kernel_rfl)) ?_
    refine wp_skip ?_
    refine X.thenN ?_
    refine wp_seq ?_
    refine wp_region_lit ?_
    refine X.pval F (X.w0 rfl) rfl (X.load rfl (F.ev 1 (.pointer (some ⟨w.heap.size, 0, none⟩)) (by kernel_rfl)) (X.ldN (Try.agg25 _) (Try.siz25 _) (X.c2 (hC.at 0 rfl) (hC.at 1 rfl)))) ?_
    clear F ac
    intro ac F
    refine X.pcall F (X.w0 rfl) rfl (X.enter (F := 81) rfl (X.kc (.func (.func 81) #[] #[]) rfl) (X.a2 (F.ev 10 (.agg #[.slice ta tn tc, .slice ca cn cc]) (by kernel_rfl)) (X.kc (.slice none 0 0) rfl)) (enters_of Try.func81 (by kernel_rfl) rfl _)) (states2_nil ta ca tn tc cn cc f w4 hok hf) ?_
    clear F ac
    rintro e w7 ⟨ra6, rn6, rc6, rfl, hR6, g⟩
    refine ⟨_, rfl, ?_⟩
    intro ac F
    replace G := G.trans g
    replace hC := hC.gr g
    replace hf := hf.gr g
    clear g
    refine X.pval F (X.w0 rfl) rfl (X.len1 Try.underlying22 rfl (F.ev 11 (.slice ra6 rn6 rc6) (by kernel_rfl))) ?_
    clear F ac
    intro ac F
    refine X.pval F (X.w0 rfl) rfl (X.assign rfl (F.ev 12 (.int .i64 rn6) (by kernel_rfl))) ?_
    clear F ac
    intro ac F
    refine X.pval F (X.w0 rfl) rfl (X.assign rfl (X.kc (.int .i64 0) rfl)) ?_
    clear F ac
    intro ac F
    refine wpList_nil ?_
    replace F : Fr ac 13 [(0, .agg #[.slice ta tn tc, .slice ca cn cc]), (1, .pointer (some ⟨w.heap.size, 0, none⟩)), (2, .int .i64 rn6), (3, .int .i64 0), (4, .int .i64 (chkE f)), (8, .bool false)] := F.sub _ (by kernel_rfl)
    refine X.thenN ?_
    refine wp_ret ?_
    have HV : cntV f = (rn6 : Int) := by unfold cntV; rw [if_pos (by assumption), hR6.len]
    have HE : chkE f = 0 := by assumption
    exact X.ret2 (v := .int .i64 rn6) (x := .int .i64 0) F rfl (by kernel_rfl) (by kernel_rfl) ⟨by rw [HV, HE], G⟩
  | true =>
    try rw [h5] at F
    have h5p : ¬ (chkE f : Int) = 0 := by simpa using h5
    have HV : cntV f = 0 := if_neg h5p
    refine wp_cond_true (F.ev 8 (.bool true) (by kernel_rfl)) ?_
    refine wp_seq ?_
    refine wp_region_lit ?_
    refine X.pval F (X.w0 rfl) rfl (X.move rfl (F.ev 4 (.int .i64 (chkE f)) (by kernel_rfl))) ?_
    clear F ac
    intro ac F
    refine X.pval F (X.w0 rfl) rfl (X.assign rfl (X.kc (.int .i64 0) rfl)) ?_
    clear F ac
    intro ac F
    refine X.pval F (X.w0 rfl) rfl (X.assign rfl (F.ev 9 (.int .i64 (chkE f)) (by kernel_rfl))) ?_
    clear F ac
    intro ac F
    refine wpList_nil ?_
    replace F : Fr ac 13 [(0, .agg #[.slice ta tn tc, .slice ca cn cc]), (1, .pointer (some ⟨w.heap.size, 0, none⟩)), (2, .int .i64 0), (3, .int .i64 (chkE f)), (4, .int .i64 (chkE f)), (8, .bool true)] := F.sub _ (by kernel_rfl)
    refine X.thenN ?_
    refine wp_ret ?_
    refine X.thenR ?_
    exact X.ret2 (v := .int .i64 0) (x := .int .i64 (chkE f)) F rfl (by kernel_rfl) (by kernel_rfl) ⟨by rw [HV], G⟩
end
section
open Go.RowKit

theorem cmpI_self (x : Int) : cmpI x x = 0 := by simp [cmpI]
theorem cmpL_lt : ∀ (p xs ys : List Int) (x y : Int), y < x → cmpL (p ++ x :: xs) (p ++ y :: ys) = 1 := by
  intro p
  induction p with
  | nil =>
    intro xs ys x y h
    have h2 : ¬ x < y := by omega
    simp [cmpL, cmpI, h, h2]
  | cons z p ih => intro xs ys x y h; simp only [List.cons_append, cmpL, cmpI_self, if_pos]; exact ih xs ys x y h
theorem cmpL_self : ∀ xs : List Int, cmpL xs xs = 0 := by
  intro xs
  induction xs with
  | nil => rfl
  | cons x xs ih => simp [cmpL, cmpI_self, ih]
theorem enumR_pre {f : Fl} : ∀ (k : Nat) (pre x : List Int), x ∈ enumR f k pre → ∃ t, x = pre ++ t := by
  intro k
  induction k with
  | zero =>
    intro pre x hx
    simp only [enumR] at hx
    split at hx
    · simp at hx; exact ⟨[], by simp [hx]⟩
    · simp at hx
  | succ k ih =>
    intro pre x hx
    simp only [enumR, List.mem_flatMap, List.mem_range] at hx
    obtain ⟨i, _, hi⟩ := hx
    obtain ⟨t, rfl⟩ := ih _ _ hi
    exact ⟨(i : Int) :: t, by simp⟩
/-- states in ascending order -/
def Asc (L : List (List Int)) : Prop := L.Pairwise fun a b => cmpL b a = 1
theorem enumR_asc {f : Fl} : ∀ (k : Nat) (pre : List Int), Asc (enumR f k pre) := by
  intro k
  induction k with
  | zero => intro pre; unfold Asc; simp only [enumR]; split <;> simp
  | succ k ih =>
    intro pre
    unfold Asc
    simp only [enumR]
    rw [List.pairwise_flatMap]
    refine ⟨fun i _ => ih _, List.Pairwise.imp ?_ List.pairwise_lt_range⟩
    intro i j hij x hx y hy
    obtain ⟨t, rfl⟩ := enumR_pre _ _ _ hx
    obtain ⟨u, rfl⟩ := enumR_pre _ _ _ hy
    rw [List.append_assoc, List.append_assoc]
    exact cmpL_lt pre u t j i (by omega)
theorem allV_asc (f : Fl) : Asc (allV f) := enumR_asc _ _
theorem allV_enum (f : Fl) : allV f = enum f (zeros f) (newestV f) f.times.length [] := enumR_eq f _ _ (by simp)

/-- the reference's choice -/
def pick2 (b s : List Int) : List Int := if sumV b ≤ sumV s then s else b
def new2 (L : List (List Int)) : List Int := L.foldl pick2 (L[0]?.getD [])
def newE (f : Fl) : Int := if chkE f = 0 then (if (allV f).length = 0 then 3 else 0) else chkE f
def newW (f : Fl) : List Int := if chkE f = 0 then new2 (allV f) else []
/-- the program's choice -/
def pick1 : Option (List Int) → List Int → Option (List Int)
  | none, s => some s
  | some b, s => if 0 < orI (cmpI (sumV s) (sumV b)) (cmpL s b) then some s else some b
def new1 (L : List (List Int)) : Option (List Int) := L.foldl pick1 none
theorem new1_snoc (L : List (List Int)) (x : List Int) : new1 (L ++ [x]) = pick1 (new1 L) x := by unfold new1; rw [List.foldl_append]; rfl

theorem pick_or {x y c : Int} (hc : c = 1) : (0 < orI (cmpI x y) c) ↔ y ≤ x := by
  subst hc
  unfold orI cmpI
  split <;> split <;> (try split at *) <;> omega
theorem pick_some : ∀ (L : List (List Int)) (b : List Int), (∀ x ∈ L, cmpL x b = 1) → Asc L → L.foldl pick1 (some b) = some (L.foldl pick2 b) := by
  intro L
  induction L with
  | nil => intro b _ _; rfl
  | cons x L ih =>
    intro b hb ha
    have hx := hb x (by simp)
    have ha' := List.pairwise_cons.1 ha
    simp only [List.foldl_cons, pick1, pick2]
    by_cases h : sumV b ≤ sumV x
    · rw [if_pos ((pick_or hx).2 h), if_pos h]; exact ih x ha'.1 ha'.2
    · rw [if_neg (fun h2 => h ((pick_or hx).1 h2)), if_neg h]; exact ih b (fun y hy => hb y (by simp [hy])) ha'.2
theorem new_same {L : List (List Int)} (ha : Asc L) : new1 L = if L.length = 0 then none else some (new2 L) := by
  cases L with
  | nil => rfl
  | cons x L =>
    have ha' := List.pairwise_cons.1 ha
    have h0 : ¬ (x :: L).length = 0 := by simp
    rw [if_neg h0]
    show L.foldl pick1 (some x) = _
    rw [pick_some L x ha'.1 ha'.2]
    simp [new2, pick2]
end
section
theorem cmpI_anti (x y : Int) : cmpI y x = - cmpI x y := by
  unfold cmpI
  split <;> split <;> (try split) <;> omega
theorem cmpL_anti : ∀ (x y : List Int), cmpL y x = - cmpL x y := by
  intro x
  induction x with
  | nil => intro y; cases y <;> rfl
  | cons a x ih =>
    intro y
    cases y with
    | nil => rfl
    | cons b y =>
      simp only [cmpL]
      rw [cmpI_anti a b]
      by_cases h : cmpI a b = 0
      · have h2 : - cmpI a b = 0 := by omega
        rw [if_pos h, if_pos h2]; exact ih y
      · have h2 : ¬ - cmpI a b = 0 := by omega
        rw [if_neg h, if_neg h2]
theorem cmpL_eq : ∀ {x y : List Int}, cmpL x y = 0 → x = y := by
  intro x
  induction x with
  | nil => intro y h; cases y with
    | nil => rfl
    | cons b y => simp [cmpL] at h
  | cons a x ih =>
    intro y h
    cases y with
    | nil => simp [cmpL] at h
    | cons b y =>
      simp only [cmpL] at h
      by_cases h0 : cmpI a b = 0
      · rw [if_pos h0] at h
        have hab : a = b := by
          unfold cmpI at h0
          split at h0
          · omega
          · split at h0 <;> omega
        rw [hab, ih h]
      · rw [if_neg h0] at h; exact absurd h h0
/-- two ascending lists of the same states are equal -/
theorem asc_ext : ∀ {A B : List (List Int)}, Asc A → Asc B → (∀ x, x ∈ A ↔ x ∈ B) → A = B := by
  intro A
  induction A with
  | nil =>
    intro B _ _ h
    cases B with
    | nil => rfl
    | cons b B => have := (h b).2 (by simp); simp at this
  | cons a A ih =>
    intro B hA hB h
    cases B with
    | nil => have := (h a).1 (by simp); simp at this
    | cons b B =>
      have hA' := List.pairwise_cons.1 hA
      have hB' := List.pairwise_cons.1 hB
      have hab : a = b := by
        have h1 := (h a).1 (by simp)
        have h2 := (h b).2 (by simp)
        rcases List.mem_cons.1 h1 with e | h1
        · exact e
        · rcases List.mem_cons.1 h2 with e | h2
          · exact e.symm
          · have k1 := hB'.1 a h1
            have k2 := hA'.1 b h2
            have := cmpL_anti a b
            omega
      subst hab
      rw [ih hA'.2 hB'.2 (fun x => ?_)]
      have hx := h x
      constructor
      · intro hm
        rcases List.mem_cons.1 (hx.1 (by simp [hm])) with e | h2
        · subst e; have := hA'.1 x hm; rw [cmpL_self] at this; omega
        · exact h2
      · intro hm
        rcases List.mem_cons.1 (hx.2 (by simp [hm])) with e | h2
        · subst e; have := hB'.1 x hm; rw [cmpL_self] at this; omega
        · exact h2

theorem enum_pre {f : Fl} {lo hi : List Int} : ∀ (k : Nat) (pre x : List Int), x ∈ enum f lo hi k pre → ∃ t, x = pre ++ t := by
  intro k
  induction k with
  | zero =>
    intro pre x hx
    simp only [enum] at hx
    split at hx
    · simp at hx; exact ⟨[], by simp [hx]⟩
    · simp at hx
  | succ k ih =>
    intro pre x hx
    simp only [enum, List.mem_flatMap, List.mem_range] at hx
    obtain ⟨i, _, hi⟩ := hx
    obtain ⟨t, rfl⟩ := ih _ _ hi
    exact ⟨(lo[pre.length]?.getD 0 + (i : Int)) :: t, by simp⟩
theorem enum_asc {f : Fl} {lo hi : List Int} : ∀ (k : Nat) (pre : List Int), Asc (enum f lo hi k pre) := by
  intro k
  induction k with
  | zero => intro pre; unfold Asc; simp only [enum]; split <;> simp
  | succ k ih =>
    intro pre
    unfold Asc
    simp only [enum]
    rw [List.pairwise_flatMap]
    refine ⟨fun i _ => ih _, List.Pairwise.imp ?_ List.pairwise_lt_range⟩
    intro i j hij x hx y hy
    obtain ⟨t, rfl⟩ := enum_pre _ _ _ hx
    obtain ⟨u, rfl⟩ := enum_pre _ _ _ hy
    rw [List.append_assoc, List.append_assoc]
    exact cmpL_lt pre u t _ _ (by omega)

theorem allV_ok {f : Fl} {x : List Int} (h : x ∈ allV f) : StOk f x ∧ worksB f x = true :=
  enumR_ok f.times.length [] (by simp) (fun c hc => by simp at hc) x h
theorem allV_has {f : Fl} {x : List Int} (hx : StOk f x) (hw : worksB f x = true) : x ∈ allV f := by
  rw [allV_enum]
  have hz : (zeros f).length = f.times.length := by simp [zeros]
  have hb : Btw (zeros f) (newestV f) x := ⟨by rw [hx.len, hz], fun c hc => by
    rw [hz] at hc
    have := (hx.ver c hc).1
    simpa [zeros, hc] using this, fun c hc => by
    rw [hz] at hc
    have := (hx.ver c hc).2
    simpa [newestV, hc] using this⟩
  have := enum_has hw hb
  rw [hz] at this; exact this
/-- the states of a box are those of all that lie in it -/
theorem enum_filter {f : Fl} {lo hi : List Int} (hlo : StOk f lo) (hhi : StOk f hi) : enum f lo hi lo.length [] = (allV f).filter (fun x => aboveV x lo && aboveV hi x) := by
  refine asc_ext (enum_asc _ _) ((allV_asc f).filter _) (fun x => ?_)
  rw [List.mem_filter]
  have hl : lo.length = hi.length := by rw [hlo.len, hhi.len]
  constructor
  · intro h
    obtain ⟨hb, hw⟩ := enum_between h
    exact ⟨allV_has (hlo.btw hhi hb) hw, by rw [hb.above, hb.below hl]; rfl⟩
  · rintro ⟨h, hb⟩
    obtain ⟨hx, hw⟩ := allV_ok h
    simp only [Bool.and_eq_true] at hb
    exact enum_has hw ⟨by rw [hx.len, hlo.len], fun c hc => aboveV_le hb.1 c (by rw [hx.len, ← hlo.len]; exact hc), fun c hc => aboveV_le hb.2 c (by rw [← hl]; exact hc)⟩

/-- what is not in a list does not turn a fold -/
theorem foldl_filter {α β : Type} (g : β → α → β) (p : α → Bool) : ∀ (l : List α) (b : β), (∀ x ∈ l, p x = false → ∀ b, g b x = b) → (l.filter p).foldl g b = l.foldl g b := by
  intro l
  induction l with
  | nil => intro b _; rfl
  | cons x l ih =>
    intro b h
    cases hp : p x with
    | true => rw [List.filter_cons_of_pos hp, List.foldl_cons, List.foldl_cons, ih _ (fun y hy => h y (by simp [hy]))]
    | false => rw [List.filter_cons_of_neg (by simp [hp]), List.foldl_cons, h x (by simp) hp, ih _ (fun y hy => h y (by simp [hy]))]

/-- an ascending state lies behind -/
theorem above_cmp : ∀ {x s : List Int}, x.length = s.length → aboveV x s = true → x ≠ s → cmpL x s = 1 := by
  intro x
  induction x with
  | nil => intro s hl _ hne; cases s with
    | nil => exact absurd rfl hne
    | cons b s => simp at hl
  | cons a x ih =>
    intro s hl ha hne
    cases s with
    | nil => simp at hl
    | cons b s =>
      have hle := aboveV_le ha
      have h0 := hle 0 (by simp)
      simp at h0
      simp only [cmpL]
      by_cases hab : a = b
      · subst hab
        rw [cmpI_self, if_pos rfl]
        exact ih (by simpa using hl) (aboveV_true rfl (fun j hj => by have := hle (j + 1) (by simpa using hj); simpa using this)) (fun e => hne (by rw [e]))
      · have h1 : b < a := by omega
        have h2 : ¬ a < b := by omega
        simp [cmpI, h1, h2]

/-- a road: steps, time, the next state's place -/
structure Rd where
  steps : Int
  time : Int
  nxt : Int
def Rd.no : Rd := ⟨-1, 0, -1⟩
def Rd.fin : Rd := ⟨0, 0, -1⟩
def roadStep (T : List (List Int)) (bu : Int) (s : List Int) (b : Rd) (x : List Int) (r : Rd) (k : Nat) : Rd :=
  if stepV T s x < 0 ∨ bu < stepV T s x ∨ r.steps < 0 then b else
  if b.steps < 0 ∨ r.steps + 1 < b.steps ∨ (r.steps + 1 = b.steps ∧ r.time + stepV T s x < b.time) then ⟨r.steps + 1, r.time + stepV T s x, k⟩ else b
/-- the best road from s over the states that follow, of which the first has place k -/
def roadFold (T : List (List Int)) (bu : Int) (s : List Int) : Rd → List (List Int) → List Rd → Nat → Rd
  | b, x :: r, y :: t, k => roadFold T bu s (roadStep T bu s b x y k) r t (k + 1)
  | b, _, _, _ => b
/-- the roads of the states that are left, of which the first has place k -/
def roadsF (T : List (List Int)) (to : List Int) (bu : Int) : List (List Int) → Nat → List Rd
  | [], _ => []
  | s :: r, k => (if s = to then Rd.fin else roadFold T bu s Rd.no r (roadsF T to bu r (k + 1)) (k + 1)) :: roadsF T to bu r (k + 1)
theorem roadsF_len {T : List (List Int)} {to : List Int} {bu : Int} : ∀ (L : List (List Int)) (k : Nat), (roadsF T to bu L k).length = L.length := by
  intro L
  induction L with
  | nil => intro k; rfl
  | cons s r ih => intro k; simp [roadsF, ih]

/-- a road is a rest -/
structure RdOk (L : List (List Int)) (b : Rs) (m : Rd) : Prop where
  no : b.is = false → m = Rd.no
  yes : b.is = true → 0 ≤ m.steps ∧ m.steps = b.steps ∧ m.time = b.time
  nx : b.is = true → b.nxt ≠ [] → 0 ≤ m.nxt ∧ m.nxt.toNat < L.length ∧ L[m.nxt.toNat]?.getD [] = b.nxt
  nn : b.is = true → b.nxt = [] → m.nxt = -1
theorem RdOk.none (L : List (List Int)) : RdOk L Rs.no Rd.no := ⟨fun _ => rfl, fun h => by simp [Rs.no] at h, fun h => by simp [Rs.no] at h, fun h => by simp [Rs.no] at h⟩

theorem roadStep_ok {f : Fl} {L : List (List Int)} {bu : Int} {s x : List Int} {rec : List Int → Rs} {b : Rs} {m r : Rd} {k : Nat} (hok : FlOk f) (hs : StOk f s) (hx : StOk f x) (hne : x ≠ []) (hk : L[k]? = some x) (hb : RdOk L b m) (hr : RdOk L (rec x) r) :
    RdOk L (bestStep f.times bu s rec b x) (roadStep f.times bu s m x r k) := by
  cases hst : stepsB f.times s x bu with
  | false =>
    have := stepsB_false hok hs hx hst
    have h2 : stepV f.times s x < 0 ∨ bu < stepV f.times s x ∨ r.steps < 0 := by omega
    have e1 : bestStep f.times bu s rec b x = b := by simp [bestStep, hst]
    have e2 : roadStep f.times bu s m x r k = m := if_pos h2
    rw [e1, e2]; exact hb
  | true =>
    have h1 := stepsB_true2 hok hs hx hst
    have hdv := stepV_dur hok hs hx hst
    cases hri : (rec x).is with
    | false =>
      have hneg : r.steps < 0 := by rw [hr.no hri]; decide
      have e1 : bestStep f.times bu s rec b x = b := by simp [bestStep, hst, hri]
      have e2 : roadStep f.times bu s m x r k = m := if_pos (.inr (.inr hneg))
      rw [e1, e2]; exact hb
    | true =>
      obtain ⟨y1, y2, y3⟩ := hr.yes hri
      have h2 : ¬ (stepV f.times s x < 0 ∨ bu < stepV f.times s x ∨ r.steps < 0) := by omega
      have hnew : RdOk L ((rec x).via f.times s x) ⟨r.steps + 1, r.time + stepV f.times s x, k⟩ := by
        refine ⟨fun h => by simp [Rs.via] at h, fun _ => ⟨by show 0 ≤ r.steps + 1; omega, by simp only [Rs.via]; omega, by simp only [Rs.via]; rw [hdv]; omega⟩, fun _ _ => ⟨by show (0 : Int) ≤ (k : Int); omega, ?_, ?_⟩, fun _ h => absurd h hne⟩
        · show ((k : Int)).toNat < L.length
          rw [Int.toNat_natCast]; exact (List.getElem?_eq_some_iff.1 hk).1
        · show L[((k : Int)).toNat]?.getD [] = x
          rw [Int.toNat_natCast, hk]; rfl
      have e2 : ∀ (h : m.steps < 0 ∨ r.steps + 1 < m.steps ∨ (r.steps + 1 = m.steps ∧ r.time + stepV f.times s x < m.time)), roadStep f.times bu s m x r k = ⟨r.steps + 1, r.time + stepV f.times s x, k⟩ := fun h => (if_neg h2).trans (if_pos h)
      have e3 : ∀ (h : ¬ (m.steps < 0 ∨ r.steps + 1 < m.steps ∨ (r.steps + 1 = m.steps ∧ r.time + stepV f.times s x < m.time))), roadStep f.times bu s m x r k = m := fun h => (if_neg h2).trans (if_neg h)
      cases hbi : b.is with
      | false =>
        have hm := hb.no hbi
        have e1 : bestStep f.times bu s rec b x = (rec x).via f.times s x := by simp [bestStep, hst, hri, hbi]
        rw [e1, e2 (by rw [hm]; exact .inl (by decide))]
        exact hnew
      | true =>
        obtain ⟨z1, z2, z3⟩ := hb.yes hbi
        cases hl : rsLess ((rec x).via f.times s x) b with
        | true =>
          have := (rsLess_iff _ _).1 hl
          simp only [Rs.via] at this
          have e1 : bestStep f.times bu s rec b x = (rec x).via f.times s x := by simp [bestStep, hst, hri, hbi, hl]
          rw [e1, e2 (by rw [hdv]; omega)]
          exact hnew
        | false =>
          have : ¬ (((rec x).via f.times s x).steps < b.steps ∨ (((rec x).via f.times s x).steps = b.steps ∧ ((rec x).via f.times s x).time < b.time)) := fun h => by rw [(rsLess_iff _ _).2 h] at hl; cases hl
          simp only [Rs.via] at this
          have e1 : bestStep f.times bu s rec b x = b := by simp [bestStep, hst, hri, hbi, hl]
          rw [e1, e3 (by rw [hdv]; omega)]
          exact hb

theorem roadFold_ok {f : Fl} {L : List (List Int)} {bu : Int} {s : List Int} {rec : List Int → Rs} (hok : FlOk f) (hs : StOk f s) : ∀ (r : List (List Int)) (t : List Rd) (k : Nat) (b : Rs) (m : Rd),
    (∀ x ∈ r, StOk f x ∧ x ≠ []) → (∀ j, j < r.length → L[k + j]? = r[j]?) → t.length = r.length → (∀ j, j < r.length → ∀ y, t[j]? = some y → RdOk L (rec (r[j]?.getD [])) y) → RdOk L b m →
    RdOk L (r.foldl (bestStep f.times bu s rec) b) (roadFold f.times bu s m r t k) := by
  intro r
  induction r with
  | nil => intro t k b m _ _ _ _ hb; cases t <;> exact hb
  | cons x r ih =>
    intro t k b m hx hL ht hr hb
    cases t with
    | nil => simp at ht
    | cons y t =>
      simp only [List.foldl_cons, roadFold]
      have hx0 := hx x (by simp)
      have hk : L[k]? = some x := by have := hL 0 (by simp); simpa using this
      have hy := hr 0 (by simp) y (by simp)
      simp at hy
      refine ih t (k + 1) _ _ (fun z hz => hx z (by simp [hz])) (fun j hj => ?_) (by simpa using ht) (fun j hj z hz => ?_) (roadStep_ok hok hs hx0.1 hx0.2 hk hb hy)
      · have := hL (j + 1) (by simpa using hj)
        rw [show k + 1 + j = k + (j + 1) by omega, this]; simp
      · have := hr (j + 1) (by simpa using hj) z (by simpa using hz)
        simpa using this

/-- the rest of a state, over the states behind it -/
theorem bestV_behind {f : Fl} {to : List Int} {bu : Int} {pre r : List (List Int)} {s : List Int} (hs : StOk f s) (hto : StOk f to) (hall : allV f = pre ++ s :: r) (hne : s ≠ to) :
    bestV f to bu s = r.foldl (bestStep f.times bu s (bestV f to bu)) Rs.no := by
  have hl : s.length = to.length := by rw [hs.len, hto.len]
  have hasc := allV_asc f
  rw [hall] at hasc
  have hpre : ∀ x ∈ pre, cmpL s x = 1 := fun x hx => (List.pairwise_append.1 hasc).2.2 x hx s (by simp)
  have hmem : ∀ x ∈ pre ++ s :: r, StOk f x := fun x hx => (allV_ok (by rw [hall]; exact hx)).1
  have hskip : ∀ x ∈ pre ++ s :: r, (aboveV x s && aboveV to x) = false → ∀ b, bestStep f.times bu s (bestV f to bu) b x = b := by
    intro x hx hp b
    unfold bestStep
    cases hst : stepsB f.times s x bu with
    | false => simp
    | true =>
      obtain ⟨ha, hn, _⟩ := stepsB_true hst
      rw [ha] at hp
      simp only [Bool.true_and] at hp
      have hxs := hmem x hx
      have hnx : x ≠ to := fun e => by subst e; rw [aboveV_refl] at hp; cases hp
      have : (bestV f to bu x).is = false := by rw [bestV_eq (by rw [hxs.len, hto.len]), if_neg hnx, hp]; rfl
      simp [this]
  have hfold : (pre ++ s :: r).foldl (bestStep f.times bu s (bestV f to bu)) Rs.no = r.foldl (bestStep f.times bu s (bestV f to bu)) Rs.no := by
    have hp : ∀ (l : List (List Int)) (b : Rs), (∀ x ∈ l, x = s ∨ cmpL s x = 1) → (∀ x ∈ l, StOk f x) → l.foldl (bestStep f.times bu s (bestV f to bu)) b = b := by
      intro l
      induction l with
      | nil => intro b _ _; rfl
      | cons x l ih =>
        intro b h hx
        rw [List.foldl_cons]
        have h0 : bestStep f.times bu s (bestV f to bu) b x = b := by
          unfold bestStep
          cases hst : stepsB f.times s x bu with
          | false => simp
          | true =>
            obtain ⟨ha, hn, _⟩ := stepsB_true hst
            rcases h x (by simp) with e | e
            · exact absurd e.symm hn
            · have h1 := above_cmp (by rw [(hx x (by simp)).len, hs.len]) ha (Ne.symm hn)
              have := cmpL_anti x s
              omega
        rw [h0]
        exact ih b (fun y hy => h y (by simp [hy])) (fun y hy => hx y (by simp [hy]))
    rw [show pre ++ s :: r = (pre ++ [s]) ++ r by simp, List.foldl_append, hp (pre ++ [s]) Rs.no (fun x hx => ?_) (fun x hx => hmem x (by simp at hx ⊢; rcases hx with h | h <;> simp [h]))]
    rcases List.mem_append.1 hx with h | h
    · exact .inr (hpre x h)
    · exact .inl (by simpa using h)
  rw [bestV_eq hl, if_neg hne]
  cases ha : aboveV to s with
  | true =>
    rw [if_pos rfl, enum_filter hs hto, hall, foldl_filter _ _ _ _ hskip, hfold]
  | false =>
    rw [if_neg (by simp), ← hfold, ← foldl_filter _ (fun x => aboveV x s && aboveV to x) _ _ hskip]
    have : (pre ++ s :: r).filter (fun x => aboveV x s && aboveV to x) = [] := by
      rw [List.filter_eq_nil_iff]
      intro x hx hb
      simp only [Bool.and_eq_true] at hb
      have := aboveV_trans hs (hmem x hx) hto hb.1 hb.2
      rw [ha] at this; cases this
    rw [this]; rfl

/-- THE TABLE HOLDS THE RESTS -/
theorem roadsF_ok {f : Fl} {to : List Int} {bu : Int} (hok : FlOk f) (hto : StOk f to) : ∀ (r pre : List (List Int)), allV f = pre ++ r → ∀ j, j < r.length → ∀ y, (roadsF f.times to bu r pre.length)[j]? = some y → RdOk (allV f) (bestV f to bu (r[j]?.getD [])) y := by
  intro r
  induction r with
  | nil => intro pre _ j hj; simp at hj
  | cons s r ih =>
    intro pre hall j hj y hy
    have hr := ih (pre ++ [s]) (by rw [hall]; simp)
    have hlen : (pre ++ [s]).length = pre.length + 1 := by simp
    rw [hlen] at hr
    have hmem : ∀ x ∈ pre ++ s :: r, StOk f x := fun x hx => (allV_ok (by rw [hall]; exact hx)).1
    have hs := hmem s (by simp)
    have hn1 := hok.n1
    have hnil : ∀ x, StOk f x → x ≠ [] := fun x hx e => by have := hx.len; rw [e] at this; simp at this; omega
    cases j with
    | succ j =>
      simp only [roadsF] at hy
      have := hr j (by simpa using hj) y (by simpa using hy)
      simpa using this
    | zero =>
      simp only [roadsF, List.getElem?_cons_zero, Option.some.injEq] at hy
      simp only [List.getElem?_cons_zero, Option.getD_some]
      by_cases he : s = to
      · subst he
        rw [if_pos rfl] at hy
        subst hy
        rw [bestV_eq rfl, if_pos rfl]
        exact ⟨fun h => by simp [Rs.fin] at h, fun _ => ⟨by decide, rfl, rfl⟩, fun _ h => absurd rfl h, fun _ _ => rfl⟩
      · rw [if_neg he] at hy
        subst hy
        rw [bestV_behind hs hto hall he]
        refine roadFold_ok hok hs r _ (pre.length + 1) Rs.no Rd.no (fun x hx => ?_) (fun j hj => ?_) (roadsF_len _ _) hr (RdOk.none _)
        · have := hmem x (by simp [hx])
          exact ⟨this, hnil x this⟩
        · rw [hall, show pre ++ s :: r = (pre ++ [s]) ++ r by simp, List.getElem?_append_right (by simp)]
          congr 1
          simp
end
section
def roadsV (f : Fl) (to : List Int) (bu : Int) : List Rd := roadsF f.times to bu (allV f) 0
theorem roadsV_len (f : Fl) (to : List Int) (bu : Int) : (roadsV f to bu).length = (allV f).length := roadsF_len _ _
theorem roadsV_ok {f : Fl} {to : List Int} {bu : Int} (hok : FlOk f) (hto : StOk f to) {j : Nat} (hj : j < (allV f).length) : RdOk (allV f) (bestV f to bu ((allV f)[j]?.getD [])) ((roadsV f to bu)[j]?.getD Rd.no) := by
  have hl : j < (roadsV f to bu).length := by rw [roadsV_len]; exact hj
  have h := roadsF_ok (bu := bu) hok hto (allV f) [] (by simp) j hj ((roadsV f to bu)[j]?.getD Rd.no) (by
    show (roadsV f to bu)[j]? = _
    simp [hl])
  exact h

/-- where the way goes on -/
theorem road_on {f : Fl} {to : List Int} {bu : Int} (hok : FlOk f) (hto : StOk f to) {s : List Int} {m : Rd} (hs : StOk f s) (hi : (bestV f to bu s).is = true) (hm : RdOk (allV f) (bestV f to bu s) m) :
    (m.nxt < 0 → s = to ∧ pathV f to bu s = []) ∧
    (¬ m.nxt < 0 → m.nxt.toNat < (allV f).length ∧ (m.nxt.toNat : Int) = m.nxt ∧ pathV f to bu s = (allV f)[m.nxt.toNat]?.getD [] :: pathV f to bu ((allV f)[m.nxt.toNat]?.getD []) ∧
      (bestV f to bu ((allV f)[m.nxt.toNat]?.getD [])).is = true ∧ StOk f ((allV f)[m.nxt.toNat]?.getD []) ∧ gap ((allV f)[m.nxt.toNat]?.getD []) to < gap s to) := by
  have hl : s.length = to.length := by rw [hs.len, hto.len]
  have hn1 := hok.n1
  by_cases he : s = to
  · subst he
    have hb : (bestV f s bu s).nxt = [] := by rw [bestV_eq rfl, if_pos rfl]; rfl
    have hn := hm.nn hi hb
    exact ⟨fun _ => ⟨rfl, pathV_end _ _ _⟩, fun h => absurd (by rw [hn]; decide) h⟩
  · obtain ⟨h1, h2, h3⟩ := bestV_next hl he hi
    have hbt := enum_between h1
    have hsx := hs.btw hto hbt.1
    have hne : (bestV f to bu s).nxt ≠ [] := fun e => by have := hsx.len; rw [e] at this; simp at this; omega
    obtain ⟨k1, k2, k3⟩ := hm.nx hi hne
    refine ⟨fun h => by omega, fun _ => ?_⟩
    rw [k3]
    exact ⟨k2, Int.toNat_of_nonneg k1, pathV_step hl he hi, h3, hsx, (next_gap hl he hi).1⟩

/-- the reference's plan finds a way exactly if the planner does -/
def idxV (L : List (List Int)) (s : List Int) : Nat := L.findIdx (fun x => decide (x = s))
theorem idxV_at {L : List (List Int)} {s : List Int} (h : s ∈ L) : idxV L s < L.length ∧ L[idxV L s]?.getD [] = s := by
  have hlt : idxV L s < L.length := List.findIdx_lt_length_of_exists ⟨s, h, by simp⟩
  refine ⟨hlt, ?_⟩
  have := List.findIdx_getElem (w := hlt)
  simp only [decide_eq_true_eq] at this
  simp only [List.getElem?_eq_getElem hlt, Option.getD_some]
  exact this
theorem road_is {f : Fl} {b : Rs} {m : Rd} (hm : RdOk (allV f) b m) : (m.steps < 0 ↔ b.is = false) := by
  constructor
  · intro h
    cases hi : b.is with
    | false => rfl
    | true => have := (hm.yes hi).1; omega
  · intro h; rw [hm.no h]; decide
end
section
open Go.RowKit

theorem Try.agg114 (w : World) : (isAgg 114).run Try.prog w = .ok false w := by kernel_rfl
theorem Try.siz114 (w : World) : (sizeOf 114).run Try.prog w = .ok 1 w := by kernel_rfl
theorem Try.agg117 (w : World) : (isAgg 117).run Try.prog w = .ok true w := by kernel_rfl
theorem Try.siz117 (w : World) : (sizeOf 117).run Try.prog w = .ok 3 w := by kernel_rfl
theorem Try.bd117 (x y z : Int) (w : World) : (Instr.build 117 #[(0, .int .i64 x), (1, .int .i64 y), (2, .int .i64 z)]).run Try.prog w = .ok (.agg #[.int .i64 x, .int .i64 y, .int .i64 z]) w := by kernel_rfl
theorem Try.new117 (w : World) : (Instr.alloc 117 true (.tuple #[])).run Try.prog w = .ok (.pointer (some ⟨w.heap.size, 0, none⟩)) (w.alloc (.cells #[.int .i64 0, .int .i64 0, .int .i64 0] 117)) := by kernel_rfl
theorem Try.info117 : (Try.prog.info? 117).map (fun i => (i.zero, i.size, i.bytes)) = some (some (.agg #[.int .i64 0, .int .i64 0, .int .i64 0]), 3, 24) := by kernel_rfl

def rdv (R : Nat → Rd) (k : Nat) : Value := .int .i64 (if k % 3 = 0 then (R (k / 3)).steps else if k % 3 = 1 then (R (k / 3)).time else (R (k / 3)).nxt)
/-- a table of roads -/
def OwnRd (W : World) (b N : Nat) (R : Nat → Rd) : Prop := Y.Own W b (N * 3) (rdv R)
section
variable {W W' : World} {b N : Nat} {R : Nat → Rd}
theorem OwnRd.gr (h : OwnRd W b N R) (g : Gr W W') : OwnRd W' b N R := Y.Own.gr h g
theorem OwnRd.only {S : Nat → Prop} (h : OwnRd W b N R) (g : Only S W W') (hs : ¬ S b) : OwnRd W' b N R := Y.Own.only h g hs
theorem OwnRd.lt (h : OwnRd W b N R) : b < W.heap.size := Y.Own.lt h
theorem OwnRd.c0 (h : OwnRd W b N R) {j : Nat} (hj : j < N) : W.cell? ⟨b, j * 3, none⟩ = some (.int .i64 (R j).steps) := by
  have := Y.Own.cell h (k := j * 3) (by omega)
  rw [this]
  unfold rdv
  rw [if_pos (by omega), show j * 3 / 3 = j by omega]
theorem OwnRd.c1 (h : OwnRd W b N R) {j : Nat} (hj : j < N) : W.cell? ⟨b, j * 3 + 1, none⟩ = some (.int .i64 (R j).time) := by
  have := Y.Own.cell h (k := j * 3 + 1) (by omega)
  rw [this]
  unfold rdv
  rw [if_neg (by omega), if_pos (by omega), show (j * 3 + 1) / 3 = j by omega]
theorem OwnRd.c2 (h : OwnRd W b N R) {j : Nat} (hj : j < N) : W.cell? ⟨b, j * 3 + 2, none⟩ = some (.int .i64 (R j).nxt) := by
  have := Y.Own.cell h (k := j * 3 + 2) (by omega)
  rw [this]
  unfold rdv
  rw [if_neg (by omega), if_neg (by omega), show (j * 3 + 2) / 3 = j by omega]
def updR (R : Nat → Rd) (j : Nat) (r : Rd) : Nat → Rd := fun k => if k = j then r else R k
theorem OwnRd.st (h : OwnRd W b N R) {j : Nat} (x y z : Int) (hj : j < N) :
    ∃ W', (Instr.storeAt 117 (.pointer (some ⟨b, j * 3, none⟩)) (.agg #[.int .i64 x, .int .i64 y, .int .i64 z])).run Try.prog W = .ok () W' ∧ OwnRd W' b N (updR R j ⟨x, y, z⟩) ∧ Only (fun x => x = b) W W' := by
  obtain ⟨W', h1, h2, h3⟩ := Y.Own.st3 (t := 117) (k := j * 3) (x := x) (y := y) (z := z) h (Try.siz117 _) (by omega)
  refine ⟨W', h1, Y.Own.congr h2 (fun k hk => ?_), h3⟩
  show (if k = j * 3 + 2 then Value.int .i64 z else if k = j * 3 + 1 then Value.int .i64 y else if k = j * 3 then Value.int .i64 x else rdv R k) = rdv (updR R j ⟨x, y, z⟩) k
  unfold rdv updR
  by_cases e2 : k = j * 3 + 2
  · rw [if_pos e2, if_neg (by omega), if_neg (by omega), if_pos (by omega)]
  · rw [if_neg e2]
    by_cases e1 : k = j * 3 + 1
    · rw [if_pos e1, if_neg (by omega), if_pos (by omega), if_pos (by omega)]
    · rw [if_neg e1]
      by_cases e0 : k = j * 3
      · rw [if_pos e0, if_pos (by omega), if_pos (by omega)]
      · rw [if_neg e0]
        have : ¬ k / 3 = j := by omega
        simp only [if_neg this]
end
theorem make114 (W : World) (N : Nat) (hN : N ≤ 1000000) : ∃ W', (Instr.makeSlice 114 (.int .i64 (N : Int)) (.int .i64 (N : Int))).run Try.prog W = .ok (.slice (some ⟨W.heap.size, 0, none⟩) N N) W' ∧ OwnRd W' W.heap.size N (fun _ => ⟨0, 0, 0⟩) ∧ Gr W W' := by
  obtain ⟨i, hi, h0, h1, h2⟩ := info_parts Try.info117
  have hr := run_make (P := Try.prog) W 114 117 i _ Try.underlying114 hi h0 .i64 .i64 N N (by omega) (Int.le_refl _) (by rw [h2]; omega) (by omega)
  simp only [Int.toNat_natCast, h1] at hr
  refine ⟨_, hr, ?_, Gr.alloc _ _⟩
  refine Y.Own.new (World.alloc_heap_new _ _) (size_madeCells _ _) (fun k hk => ?_)
  unfold madeCells rdv
  simp only [Value.cells, Array.getElem?_map]
  rw [Array.getElem?_eq_getElem (by simpa using hk)]
  have h3 : k % 3 = 0 ∨ k % 3 = 1 ∨ k % 3 = 2 := by omega
  rcases h3 with h | h | h <;> simp [h]

/-- the rows from z on are done -/
def tabR (f : Fl) (to : List Int) (bu : Int) (z : Nat) : Nat → Rd := fun k => if z ≤ k then (roadsV f to bu)[k]?.getD Rd.no else ⟨0, 0, 0⟩
/-- the best road over the first m states behind i -/
def pfR (f : Fl) (to : List Int) (bu : Int) (i : Nat) : Nat → Rd
  | 0 => Rd.no
  | m + 1 => roadStep f.times bu ((allV f)[i]?.getD []) (pfR f to bu i m) ((allV f)[i + 1 + m]?.getD []) ((roadsV f to bu)[i + 1 + m]?.getD Rd.no) (i + 1 + m)
theorem roadsF_drop {T : List (List Int)} {to : List Int} {bu : Int} : ∀ (L : List (List Int)) (k j : Nat), (roadsF T to bu L k).drop j = roadsF T to bu (L.drop j) (k + j) := by
  intro L
  induction L with
  | nil => intro k j; simp [roadsF]
  | cons s r ih =>
    intro k j
    cases j with
    | zero => rfl
    | succ j => simp only [roadsF, List.drop_succ_cons]; rw [ih (k + 1) j]; congr 1; omega
theorem roadFold_take {T : List (List Int)} {bu : Int} {s : List Int} : ∀ (m : Nat) (r : List (List Int)) (t : List Rd) (k : Nat) (b : Rd), m < r.length → t.length = r.length →
    roadFold T bu s b (r.take (m + 1)) (t.take (m + 1)) k = roadStep T bu s (roadFold T bu s b (r.take m) (t.take m) k) (r[m]?.getD []) (t[m]?.getD Rd.no) (k + m) := by
  intro m
  induction m with
  | zero =>
    intro r t k b h ht
    cases r with
    | nil => simp at h
    | cons x r => cases t with
      | nil => simp at ht
      | cons y t => simp [roadFold]
  | succ m ih =>
    intro r t k b h ht
    cases r with
    | nil => simp at h
    | cons x r => cases t with
      | nil => simp at ht
      | cons y t =>
        have := ih r t (k + 1) (roadStep T bu s b x y k) (by simpa using h) (by simpa using ht)
        simp only [List.take_succ_cons, roadFold]
        rw [this]
        simp only [List.getElem?_cons_succ]
        congr 1
        omega
theorem pfR_fold {f : Fl} {to : List Int} {bu : Int} {i : Nat} : ∀ (m : Nat), i + 1 + m ≤ (allV f).length →
    pfR f to bu i m = roadFold f.times bu ((allV f)[i]?.getD []) Rd.no (((allV f).drop (i + 1)).take m) (((roadsV f to bu).drop (i + 1)).take m) (i + 1) := by
  intro m
  induction m with
  | zero => intro _; simp [pfR, roadFold]
  | succ m ih =>
    intro h
    have hl := roadsV_len f to bu
    rw [roadFold_take m _ _ _ _ (by simp; omega) (by simp; omega), ← ih (by omega)]
    simp only [pfR, List.getElem?_drop]
theorem pfR_all {f : Fl} {to : List Int} {bu : Int} {i m : Nat} (h : i + 1 + m = (allV f).length) :
    (roadsV f to bu)[i]?.getD Rd.no = if (allV f)[i]?.getD [] = to then Rd.fin else pfR f to bu i m := by
  have hl := roadsV_len f to bu
  have hi : i < (allV f).length := by omega
  rw [pfR_fold m (by omega), List.take_of_length_le (by simp; omega), List.take_of_length_le (by simp; omega)]
  have h1 : (roadsV f to bu)[i]?.getD Rd.no = ((roadsV f to bu).drop i)[0]?.getD Rd.no := by simp
  have h3 : (roadsV f to bu).drop (i + 1) = roadsF f.times to bu ((allV f).drop (i + 1)) (i + 1) := by unfold roadsV; rw [roadsF_drop, Nat.zero_add]
  rw [h1, h3]
  unfold roadsV
  rw [roadsF_drop, Nat.zero_add, List.drop_eq_getElem_cons hi]
  simp [roadsF, hi]
theorem tab_step {f : Fl} {to : List Int} {bu : Int} {i : Nat} {r : Rd} (h : (roadsV f to bu)[i]?.getD Rd.no = r) : updR (tabR f to bu (i + 1)) i r = tabR f to bu i := by
  funext k
  unfold updR tabR
  by_cases e : k = i
  · subst e; rw [if_pos rfl, if_pos (Nat.le_refl _), h]
  · rw [if_neg e]
    by_cases h2 : i ≤ k
    · rw [if_pos (by omega), if_pos h2]
    · rw [if_neg (by omega), if_neg h2]
theorem updR_twice (R : Nat → Rd) (i : Nat) (r s : Rd) : updR (updR R i r) i s = updR R i s := by
  funext k
  unfold updR
  by_cases e : k = i
  · rw [if_pos e, if_pos e]
  · rw [if_neg e, if_neg e, if_neg e]
theorem updR_self (R : Nat → Rd) (i : Nat) (r : Rd) : updR R i r i = r := if_pos rfl
theorem updR_other (R : Nat → Rd) {i k : Nat} (r : Rd) (h : ¬ k = i) : updR R i r k = R k := if_neg h
theorem tabR_in {f : Fl} {to : List Int} {bu : Int} {z k : Nat} (h : z ≤ k) : tabR f to bu z k = (roadsV f to bu)[k]?.getD Rd.no := if_pos h
theorem OwnRd.start {W : World} {b N : Nat} {f : Fl} {to : List Int} {bu : Int} (h : OwnRd W b N (fun _ => ⟨0, 0, 0⟩)) : OwnRd W b N (tabR f to bu N) :=
  Y.Own.congr h (fun k hk => by
    have : ¬ N ≤ k / 3 := by omega
    unfold rdv tabR
    simp only [if_neg this])
theorem OwnRd.done {W : World} {b N : Nat} {f : Fl} {to : List Int} {bu : Int} (h : OwnRd W b N (tabR f to bu 0)) : OwnRd W b N (fun k => (roadsV f to bu)[k]?.getD Rd.no) :=
  Y.Own.congr h (fun k _ => by
    unfold rdv tabR
    simp only [Nat.zero_le, if_true])
/-- a slice of roads -/
def MP.rds (N : Nat) (R : Nat → Rd) : Y.MP := ⟨fun v W => ∃ b, v = .slice (some ⟨b, 0, none⟩) N N ∧ OwnRd W b N R, fun _ _ _ ⟨b, h1, h2⟩ g => ⟨b, h1, h2.gr g⟩⟩
/-- bounds -/
structure RdBd (r : Rd) : Prop where
  s0 : -1 ≤ r.steps
  s1 : r.steps ≤ 18
  t0 : 0 ≤ r.time
  t1 : r.time ≤ 1080000
theorem RdOk.bd {L : List (List Int)} {b : Rs} {m : Rd} (h : RdOk L b m) (hb : b.Bd 18) : RdBd m := by
  cases hi : b.is with
  | false => rw [h.no hi]; exact ⟨by decide, by decide, by decide, by decide⟩
  | true =>
    obtain ⟨h1, h2, h3⟩ := h.yes hi
    have := hb.s0
    have := hb.s1
    have := hb.t0
    have := hb.t1
    exact ⟨by omega, by omega, by omega, by omega⟩
theorem roadsV_bd {f : Fl} {to : List Int} {bu : Int} (hok : FlOk f) (hto : StOk f to) {j : Nat} (hj : j < (allV f).length) : RdBd ((roadsV f to bu)[j]?.getD Rd.no) := by
  have h := roadsV_ok (bu := bu) hok hto hj
  refine h.bd (bestV_bd hok hto _ (allV_ok ?_).1)
  rw [List.getElem?_eq_getElem hj]; exact List.getElem_mem hj
end
section
open Go.RowKit

/-- the slice v, of the call's own, holds slices from the world w1 that hold the lists L -/
def OutB (w1 w : World) (v : Value) (L : List (List Int)) : Prop :=
  ∃ xs : List Value, w.ownsRow w1.heap.size 26 1 v L.length xs ∧ Gr w1 w ∧ ∀ j, j < L.length → ∃ a n c, xs[j]? = some (.slice a n c) ∧ Ints w1 a n (L[j]?.getD [])
theorem OutB.nil (w : World) : OutB w w (.slice none 0 0) [] := ⟨[], World.ownsRow_nil w w.heap.size 26 1, Gr.refl _, fun j hj => by simp at hj⟩
theorem OutB.gr {w1 w w' : World} {v : Value} {L : List (List Int)} (h : OutB w1 w v L) (g : Gr w w') : OutB w1 w' v L := by
  obtain ⟨xs, h1, h2, h3⟩ := h
  exact ⟨xs, ownsRow_only h1 (g.only (fun _ => False)) (noc_none w), h2.trans g, h3⟩
theorem OutB.rows {w1 w : World} {v : Value} {L : List (List Int)} (h : OutB w1 w v L) (hl : L.length < 1152921504606846976) : ∃ a c, v = .slice a L.length c ∧ RowsAt w a L.length L := by
  obtain ⟨xs, h1, hg, h2⟩ := h
  rcases h1.2 with ⟨rfl, h0⟩ | ⟨g, cap, cur, rfl, _, h3, hnc, _⟩
  · exact ⟨none, 0, by rw [h0], ⟨rfl, hl, fun j hj => by omega⟩⟩
  · refine ⟨some ⟨g, 0, none⟩, cap, rfl, ⟨rfl, hl, fun j hj => ?_⟩⟩
    obtain ⟨a, n, c, k1, k2⟩ := h2 j hj
    exact ⟨⟨g, 0, none⟩, a, n, c, rfl, (Array.getElem?_eq_some_iff.1 h3).1, h1.cells (g := g) rfl j _ k1, k2.gr hg⟩
theorem wp_pushB {o : Oper} {a : Act} {w1 W : World} {K : Act → World → Prop} {Q : Exit → Act → World → Prop} {s x : Operand} {v : Value} {L : List (List Int)} {ya : Option Addr} {n c g : Nat} {y : List Int}
    (ho : o.op = .call { callee := .builtin .append, args := #[s, x], argTypes := #[22, 22] }) (hs : a.eval s = v) (hx : a.eval x = .slice (some ⟨g, 0, none⟩) 1 1)
    (hg : W.heap[g]? = some (.cells #[.slice ya n c] 26)) (hO : OutB w1 W v L) (hy : Ints w1 ya n y) (hl : L.length ≤ 1000000)
    (h : ∀ v' w', OutB w1 w' v' (L ++ [y]) → Gr w1 w' → K (a.put o.dst v') w') : o.wp Try.prog a W K Q := by
  obtain ⟨i0, hi, hz0, hz1, hz2⟩ := info_parts Try.info26
  obtain ⟨ov, hown, h1, hrw⟩ := hO
  refine wp_append_own W s x 22 ho w1.heap.size 26 i0 (.slice none 0 0) 1 24 Try.underlying22 hi hz0 hz1 hz2 rfl (by decide) v L.length ov hs hown ⟨g, 0, none⟩ 1 1 [.slice ya n c] hx rfl (one_cell_at hg) (fun u hu => by simp at hu; subst hu; rfl) (by unfold maxLen; omega) (by omega) h1.size (fun v' w' hown' hgrow _ => ?_)
  have hO' := only_grown hgrow
  have hb : ∀ b, v.ownBlock = some b → w1.heap.size ≤ b := fun b e => (own_block hown e).1
  have g2 : Gr w1 w' := ((h1.only (fun b => w1.heap.size ≤ b)).trans (hO'.mono' (fun i e => hb i e))).gr (fun i hi e => by omega)
  refine h v' w' ⟨_, by simpa using hown', g2, fun j hj => ?_⟩ g2
  have hxl : ov.length = L.length := by simpa using hown.1
  by_cases e : j = L.length
  · subst e
    exact ⟨ya, n, c, by rw [← hxl]; simp, by simpa using hy⟩
  · have hj' : j < L.length := by simp at hj; omega
    obtain ⟨a', n', c', k1, k2⟩ := hrw j hj'
    exact ⟨a', n', c', by rw [List.getElem?_append_left (by omega)]; exact k1, by rw [List.getElem?_append_left hj']; exact k2⟩
theorem Y.ppushB {ops : Array Oper} {rest : List Oper} {o : Oper} {a : Act} {w1 W : World} {Q : Exit → Act → World → Prop} (hgd : o.guard = none) {s x : Operand} {v : Value} {L : List (List Int)} {ya : Option Addr} {n c g : Nat} {y : List Int}
    (ho : o.op = .call { callee := .builtin .append, args := #[s, x], argTypes := #[22, 22] }) (hs : a.eval s = v) (hx : a.eval x = .slice (some ⟨g, 0, none⟩) 1 1)
    (hg : W.heap[g]? = some (.cells #[.slice ya n c] 26)) (hO : OutB w1 W v L) (hy : Ints w1 ya n y) (hl : L.length ≤ 1000000)
    (h : ∀ v' w', OutB w1 w' v' (L ++ [y]) → Gr w1 w' → wpL Try.prog ops Q rest (a.put o.dst v') w') : wpL Try.prog ops Q (o :: rest) a W :=
  Y.wpL_plain hgd fun _ hK => wp_pushB ho hs hx hg hO hy hl (fun v' w' k1 k2 => hK _ _ (h v' w' k1 k2))

theorem idx_ne {L : List (List Int)} {s : List Int} {k : Nat} (hk : k ≤ idxV L s) (hs : s ∈ L) (hne : ¬ L[k]?.getD [] = s) : k + 1 ≤ idxV L s := by
  by_cases e : k = idxV L s
  · subst e; exact absurd (idxV_at hs).2 hne
  · omega
theorem idx_eq {L : List (List Int)} {s : List Int} {k : Nat} (hk : k ≤ idxV L s) (hl : k < L.length) (he : L[k]?.getD [] = s) : idxV L s = k := by
  by_cases e : k = idxV L s
  · exact e.symm
  · exfalso
    have h1 : k < L.findIdx (fun x => decide (x = s)) := by unfold idxV at hk e; omega
    have := List.not_of_lt_findIdx h1
    rw [List.getElem?_eq_getElem hl] at he
    simp at he
    simp [he] at this

/-- the way on from the j-th state -/
theorem road_go {f : Fl} {to : List Int} {bu : Int} (hok : FlOk f) (hto : StOk f to) {j : Nat} (hj : j < (allV f).length) (hi : (bestV f to bu ((allV f)[j]?.getD [])).is = true) (hn : 0 ≤ ((roadsV f to bu)[j]?.getD Rd.no).nxt) :
    ∃ j2 : Nat, ((roadsV f to bu)[j]?.getD Rd.no).nxt = (j2 : Int) ∧ j2 < (allV f).length ∧ pathV f to bu ((allV f)[j]?.getD []) = (allV f)[j2]?.getD [] :: pathV f to bu ((allV f)[j2]?.getD []) ∧ (bestV f to bu ((allV f)[j2]?.getD [])).is = true ∧ StOk f ((allV f)[j2]?.getD []) ∧ gap ((allV f)[j2]?.getD []) to < gap ((allV f)[j]?.getD []) to := by
  have hs := (allV_ok (by rw [List.getElem?_eq_getElem hj]; exact List.getElem_mem hj : (allV f)[j]?.getD [] ∈ allV f)).1
  obtain ⟨h1, h2, h3, h4, h5, h6⟩ := (road_on hok hto hs hi (roadsV_ok (bu := bu) hok hto hj)).2 (by omega)
  exact ⟨_, h2.symm, h1, h3, h4, h5, h6⟩
theorem road_stop {f : Fl} {to : List Int} {bu : Int} (hok : FlOk f) (hto : StOk f to) {j : Nat} (hj : j < (allV f).length) (hi : (bestV f to bu ((allV f)[j]?.getD [])).is = true) (hn : ((roadsV f to bu)[j]?.getD Rd.no).nxt < 0) : pathV f to bu ((allV f)[j]?.getD []) = [] := by
  have hs := (allV_ok (by rw [List.getElem?_eq_getElem hj]; exact List.getElem_mem hj : (allV f)[j]?.getD [] ∈ allV f)).1
  exact ((road_on hok hto hs hi (roadsV_ok (bu := bu) hok hto hj)).1 hn).2
/-- the planner's way, if there is one -/
def wayV (f : Fl) (to : List Int) (bu : Int) (s : List Int) : List (List Int) := if (bestV f to bu s).is then pathV f to bu s else []
end
section
open Go.RowKit

theorem Try.agg111 (w : World) : (isAgg 111).run Try.prog w = .ok false w := by kernel_rfl
theorem Try.siz111 (w : World) : (sizeOf 111).run Try.prog w = .ok 1 w := by kernel_rfl
theorem Try.info4 : (Try.prog.info? 4).map (fun i => (i.zero, i.size, i.bytes)) = some (some (.bool false), 1, 1) := by kernel_rfl
def OwnBo (W : World) (b N : Nat) (C : Nat → Bool) : Prop := ∃ cs, W.heap[b]? = some (.cells cs 4 (0, 0)) ∧ cs.size = N ∧ ∀ k, k < N → cs[k]? = some (.bool (C k))
section
variable {W W' : World} {b N : Nat} {C : Nat → Bool}
theorem OwnBo.own (h : OwnBo W b N C) : Y.Own W b N (fun k => .bool (C k)) := by
  obtain ⟨cs, h1, h2, h3⟩ := h
  exact ⟨cs, 4, h1, h2, h3⟩
theorem OwnBo.lt (h : OwnBo W b N C) : b < W.heap.size := h.own.lt
theorem OwnBo.only {S : Nat → Prop} (h : OwnBo W b N C) (g : Only S W W') (hs : ¬ S b) : OwnBo W' b N C := by
  have hlt := h.lt
  obtain ⟨cs, h1, h2⟩ := h
  exact ⟨cs, (g.block b hlt hs).trans h1, h2⟩
theorem OwnBo.gr (h : OwnBo W b N C) (g : Gr W W') : OwnBo W' b N C := h.only (g.only (fun _ => False)) (fun h => h)
theorem OwnBo.cell (h : OwnBo W b N C) {k : Nat} (hk : k < N) : W.cell? ⟨b, k, none⟩ = some (.bool (C k)) := h.own.cell hk
theorem OwnBo.st (h : OwnBo W b N C) {k : Nat} (v : Bool) (hk : k < N) :
    ∃ W', (Instr.storeAt 4 (.pointer (some ⟨b, k, none⟩)) (.bool v)).run Try.prog W = .ok () W' ∧ OwnBo W' b N (fun j => if j = k then v else C j) ∧ Only (fun x => x = b) W W' := by
  refine ⟨_, Y.st1 (Try.siz4 _) rfl rfl (h.cell hk) (h.own.fz k), ?_, Y.set_only _ _ _ _⟩
  obtain ⟨cs, h1, h2, h3⟩ := h
  refine ⟨cs.setIfInBounds k (.bool v), heap_setCell_same W b k cs 4 _ h1, by simpa using h2, fun j hj => ?_⟩
  show _ = some (Value.bool (if j = k then v else C j))
  by_cases e : j = k
  · subst e; rw [if_pos rfl, Array.getElem?_setIfInBounds_self_of_lt (by omega)]
  · rw [if_neg e, Array.getElem?_setIfInBounds_ne (Ne.symm e)]; exact h3 j hj
theorem OwnBo.congr {C' : Nat → Bool} (h : OwnBo W b N C) (he : ∀ k, k < N → C k = C' k) : OwnBo W b N C' := by
  obtain ⟨cs, h1, h2, h3⟩ := h
  exact ⟨cs, h1, h2, fun k hk => by rw [h3 k hk, he k hk]⟩
theorem own26 {w1 : World} {v : Value} {L : List (List Int)} (h : OutB w1 W v L) {g : Nat} (hg : v.ownBlock = some g) : ∃ cur, W.heap[g]? = some (.cells cur 26 (0, 0)) := by
  obtain ⟨xs, h1, _⟩ := h
  rcases h1.2 with ⟨rfl, _⟩ | ⟨g', cap, cur, rfl, _, h3, _⟩
  · simp [Value.ownBlock] at hg
  · simp [Value.ownBlock] at hg; subst hg; exact ⟨cur, h3⟩
theorem OwnBo.ne26 (h : OwnBo W b N C) {w1 : World} {v : Value} {L : List (List Int)} (hV : OutB w1 W v L) : ¬ v.ownBlock = some b := fun e => by
  obtain ⟨cur, h1⟩ := own26 hV e
  obtain ⟨cs, h2, _⟩ := h
  rw [h1] at h2
  injection h2 with h2
  injection h2 with _ h2
  cases h2
theorem OutB.only {w1 : World} {v : Value} {L : List (List Int)} (hV : OutB w1 W v L) {S : Nat → Prop} (g : Only S W W') (hs : ∀ x, v.ownBlock = some x → ¬ S x) (g1 : Gr w1 W') : OutB w1 W' v L := by
  obtain ⟨xs, h1, _, h3⟩ := hV
  refine ⟨xs, ⟨h1.1, ?_⟩, g1, h3⟩
  rcases h1.2 with h2 | ⟨g', cap, cur, e, k2, k3, k4⟩
  · exact .inl h2
  · exact .inr ⟨g', cap, cur, e, k2, (g.block g' (Array.getElem?_eq_some_iff.1 k3).1 (hs g' (by rw [e]; rfl))).trans k3, k4⟩
end
theorem make111 (W : World) (N : Nat) (hN : N ≤ 1000000) : ∃ W', (Instr.makeSlice 111 (.int .i64 (N : Int)) (.int .i64 (N : Int))).run Try.prog W = .ok (.slice (some ⟨W.heap.size, 0, none⟩) N N) W' ∧ OwnBo W' W.heap.size N (fun _ => false) ∧ Gr W W' := by
  obtain ⟨i, hi, h0, h1, h2⟩ := info_parts Try.info4
  have hr := run_make (P := Try.prog) W 111 4 i _ Try.underlying111 hi h0 .i64 .i64 N N (by omega) (Int.le_refl _) (by rw [h2]; omega) (by omega)
  simp only [Int.toNat_natCast, h1] at hr
  refine ⟨_, hr, ?_, Gr.alloc _ _⟩
  refine ⟨_, World.alloc_heap_new _ _, by rw [size_madeCells]; omega, fun k hk => ?_⟩
  unfold madeCells
  simp only [Value.cells, Array.getElem?_map]
  rw [Array.getElem?_eq_getElem (by simpa using hk)]
  simp [Nat.mod_one]
theorem wp_pushC {o : Oper} {a : Act} {w1 W : World} {K : Act → World → Prop} {Q : Exit → Act → World → Prop} {s x : Operand} {v : Value} {L : List (List Int)} {ya : Option Addr} {n c g : Nat} {y : List Int}
    (ho : o.op = .call { callee := .builtin .append, args := #[s, x], argTypes := #[22, 22] }) (hs : a.eval s = v) (hx : a.eval x = .slice (some ⟨g, 0, none⟩) 1 1)
    (hg : W.heap[g]? = some (.cells #[.slice ya n c] 26)) (hO : OutB w1 W v L) (hy : Ints w1 ya n y) (hl : L.length ≤ 1000000)
    (h : ∀ v' w', OutB w1 w' v' (L ++ [y]) → Only (fun b => v.ownBlock = some b) W w' → Gr w1 w' → K (a.put o.dst v') w') : o.wp Try.prog a W K Q := by
  obtain ⟨i0, hi, hz0, hz1, hz2⟩ := info_parts Try.info26
  obtain ⟨ov, hown, h1, hrw⟩ := hO
  refine wp_append_own W s x 22 ho w1.heap.size 26 i0 (.slice none 0 0) 1 24 Try.underlying22 hi hz0 hz1 hz2 rfl (by decide) v L.length ov hs hown ⟨g, 0, none⟩ 1 1 [.slice ya n c] hx rfl (one_cell_at hg) (fun u hu => by simp at hu; subst hu; rfl) (by unfold maxLen; omega) (by omega) h1.size (fun v' w' hown' hgrow _ => ?_)
  have hO' := only_grown hgrow
  have hb : ∀ b, v.ownBlock = some b → w1.heap.size ≤ b := fun b e => (own_block hown e).1
  have g2 : Gr w1 w' := ((h1.only (fun b => w1.heap.size ≤ b)).trans (hO'.mono' (fun i e => hb i e))).gr (fun i hi e => by omega)
  refine h v' w' ⟨_, by simpa using hown', g2, fun j hj => ?_⟩ hO' g2
  have hxl : ov.length = L.length := by simpa using hown.1
  by_cases e : j = L.length
  · subst e
    exact ⟨ya, n, c, by rw [← hxl]; simp, by simpa using hy⟩
  · have hj' : j < L.length := by simp at hj; omega
    obtain ⟨a', n', c', k1, k2⟩ := hrw j hj'
    exact ⟨a', n', c', by rw [List.getElem?_append_left (by omega)]; exact k1, by rw [List.getElem?_append_left hj']; exact k2⟩
theorem Y.ppushC {ops : Array Oper} {rest : List Oper} {o : Oper} {a : Act} {w1 W : World} {Q : Exit → Act → World → Prop} (hgd : o.guard = none) {s x : Operand} {v : Value} {L : List (List Int)} {ya : Option Addr} {n c g : Nat} {y : List Int}
    (ho : o.op = .call { callee := .builtin .append, args := #[s, x], argTypes := #[22, 22] }) (hs : a.eval s = v) (hx : a.eval x = .slice (some ⟨g, 0, none⟩) 1 1)
    (hg : W.heap[g]? = some (.cells #[.slice ya n c] 26)) (hO : OutB w1 W v L) (hy : Ints w1 ya n y) (hl : L.length ≤ 1000000)
    (h : ∀ v' w', OutB w1 w' v' (L ++ [y]) → Only (fun b => v.ownBlock = some b) W w' → Gr w1 w' → wpL Try.prog ops Q rest (a.put o.dst v') w') : wpL Try.prog ops Q (o :: rest) a W :=
  Y.wpL_plain hgd fun _ hK => wp_pushC ho hs hx hg hO hy hl (fun v' w' k1 k2 k3 => hK _ _ (h v' w' k1 k2 k3))
end
section
open Go.RowKit

/-- block m is a map whose keys are these states, each with 1 -/
def Seen (W : World) (m : Nat) (O : List (List Int)) : Prop :=
  ∃ es clk, W.heap[m]? = some (.map es clk) ∧ es.toList.map (fun e => e.key) = O.map keyV ∧ (∀ e ∈ es.toList, e.val = .int .i64 1) ∧ ∀ s ∈ O, Small s
theorem Seen.lt {W : World} {m : Nat} {O : List (List Int)} (h : Seen W m O) : m < W.heap.size := by
  obtain ⟨es, clk, hb, _⟩ := h
  exact (Array.getElem?_eq_some_iff.1 hb).1
theorem Seen.only {S : Nat → Prop} {W W' : World} {m : Nat} {O : List (List Int)} (h : Seen W m O) (g : Only S W W') (hs : ¬ S m) : Seen W' m O := by
  have hlt := h.lt
  obtain ⟨es, clk, hb, h2⟩ := h
  exact ⟨es, clk, (g.block m hlt hs).trans hb, h2⟩
theorem Seen.key {O : List (List Int)} {s : List Int} (hl : ∀ x ∈ O, x.length = s.length) (h6 : s.length ≤ 6) : keyV s ∈ O.map keyV ↔ s ∈ O := by
  rw [List.mem_map]
  constructor
  · rintro ⟨x, h1, h2⟩
    have := keyV_inj (hl x h1) (by rw [hl x h1]; exact h6) h2
    subst this; exact h1
  · exact fun h => ⟨s, h, rfl⟩
theorem seen_lookup {W : World} {m t e : Nat} {O : List (List Int)} {s : List Int} (ht : Try.prog.underlying t = some (.map 89 e)) (hz : (zeroValue e).run Try.prog W = .ok (.int .i64 0) W) (h : Seen W m O) (hs : Small s) (hl : ∀ x ∈ O, x.length = s.length) (h6 : s.length ≤ 6) :
    (Instr.lookup t (.map (some m)) (keyV s) false).run Try.prog W = .ok (.int .i64 (if s ∈ O then 1 else 0)) W := by
  obtain ⟨es, clk, hb, hk, hv, hsm⟩ := h
  obtain ⟨l, hkl⟩ := keyOf_keyV hs
  have hmem : ∀ e ∈ es.toList, ∃ x, x ∈ O ∧ e.key = keyV x := fun e he => by
    have : e.key ∈ es.toList.map (fun e => e.key) := List.mem_map_of_mem he
    rw [hk, List.mem_map] at this
    obtain ⟨x, h1, h2⟩ := this
    exact ⟨x, h1, h2.symm⟩
  have K := Try.akey.law
  rcases K.find W hkl es.toList (fun e he => by obtain ⟨x, h1, h2⟩ := hmem e he; rw [h2]; exact keyOf_keyV (hsm x h1)) with ⟨h1, h2⟩ | ⟨j, e0, h1, h2, h3⟩
  · have hn : ¬ s ∈ O := fun hm => by
      have := (Seen.key hl h6).2 hm
      rw [← hk, List.mem_map] at this
      obtain ⟨e, he, hek⟩ := this
      exact h2 e he hek
    rw [if_neg hn]
    simp [Instr.lookup, run_underlying ht, MapKept.run_getObj_map hb, K.check W _ hkl, h1, hz, Result.andThen]
  · have hm0 : e0 ∈ es.toList := List.mem_of_getElem? h2
    have hy : s ∈ O := by
      rw [← Seen.key hl h6, ← hk, List.mem_map]
      exact ⟨e0, hm0, h3⟩
    rw [if_pos hy]
    have hv0 := hv e0 hm0
    simp [Instr.lookup, run_underlying ht, MapKept.run_getObj_map hb, K.check W _ hkl, h1, Result.andThen, hv0]
theorem seen_store {W : World} {m t e : Nat} {O : List (List Int)} {s : List Int} (ht : Try.prog.underlying t = some (.map 89 e)) (h : Seen W m O) (hs : Small s) (hl : ∀ x ∈ O, x.length = s.length) (h6 : s.length ≤ 6) (hn : ¬ s ∈ O) :
    ∃ o, (Instr.mapUpdate t (.map (some m)) (keyV s) (.int .i64 1)).run Try.prog W = .ok () (W.putObj m o) ∧ Seen (W.putObj m o) m (O ++ [s]) := by
  obtain ⟨es, clk, hb, hk, hv, hsm⟩ := h
  obtain ⟨l, hkl⟩ := keyOf_keyV hs
  have hlt : m < W.heap.size := (Array.getElem?_eq_some_iff.1 hb).1
  have hset : ∀ o, (setObj m o).run Try.prog W = .ok () (W.putObj m o) := fun o => by
    simp [setObj, Sem.run, hb, World.putObj]
  have hmem : ∀ e ∈ es.toList, ∃ x, x ∈ O ∧ e.key = keyV x := fun e he => by
    have : e.key ∈ es.toList.map (fun e => e.key) := List.mem_map_of_mem he
    rw [hk, List.mem_map] at this
    obtain ⟨x, h1, h2⟩ := this
    exact ⟨x, h1, h2.symm⟩
  have K := Try.akey.law
  rcases K.find W hkl es.toList (fun e he => by obtain ⟨x, h1, h2⟩ := hmem e he; rw [h2]; exact keyOf_keyV (hsm x h1)) with ⟨h1, h2⟩ | ⟨j, e0, h1, h2, h3⟩
  · refine ⟨_, by simp [Instr.mapUpdate, run_underlying ht, MapKept.run_getObj_map hb, K.check W _ hkl, h1, Result.andThen, hset], es.push { key := keyV s, val := .int .i64 1, born := clk }, clk + 1, World.putObj_heap_same hlt, ?_, ?_, ?_⟩
    · rw [Array.toList_push, List.map_append, List.map_append, hk]; rfl
    · intro e he
      simp at he
      rcases he with he | he
      · exact hv e (by simpa using he)
      · subst he; rfl
    · intro x hx
      rcases List.mem_append.1 hx with hx | hx
      · exact hsm x hx
      · simp at hx; subst hx; exact hs
  · exfalso
    apply hn
    rw [← Seen.key hl h6, ← hk, List.mem_map]
    exact ⟨e0, List.mem_of_getElem? h2, h3⟩
theorem seen_new {W : World} {m : Nat} {clk : Nat} (h : W.heap[m]? = some (.map #[] clk)) : Seen W m [] := ⟨#[], clk, h, rfl, fun e he => by simp at he, fun s hs => by simp at hs⟩

/-- the slice v, of the call's own, holds slices that hold the lists L; none of this lies in N -/
def OutN (w : World) (B : Nat) (N : Nat → Prop) (v : Value) (L : List (List Int)) : Prop :=
  ∃ xs : List Value, w.ownsRow B 26 1 v L.length xs ∧ (∀ b, v.ownBlock = some b → ¬ N b) ∧ ∀ j, j < L.length → ∃ ad n c, xs[j]? = some (.slice (some ad) n c) ∧ Ints w (some ad) n (L[j]?.getD []) ∧ Is3 w ad.block ∧ ¬ N ad.block
section
variable {S N : Nat → Prop} {w w' : World} {B : Nat} {v : Value} {L : List (List Int)}
theorem OutN.only (h : OutN w B N v L) (g : Only S w w') (hs : ∀ b, S b → N b) : OutN w' B N v L := by
  obtain ⟨xs, h1, hN, h2⟩ := h
  refine ⟨xs, ⟨h1.1, ?_⟩, hN, fun j hj => ?_⟩
  · rcases h1.2 with h3 | ⟨g', cap, cur, e, k2, k3, k4⟩
    · exact .inl h3
    · exact .inr ⟨g', cap, cur, e, k2, (g.block g' (Array.getElem?_eq_some_iff.1 k3).1 (fun hS => hN g' (by rw [e]; rfl) (hs _ hS))).trans k3, k4⟩
  · obtain ⟨ad, n, c, k1, k2, k3, k4⟩ := h2 j hj
    exact ⟨ad, n, c, k1, k2.onlyAt g (fun ad' e hS => by cases e; exact k4 (hs _ hS)), k3.only g (fun hS => k4 (hs _ hS)), k4⟩
theorem OutN.gr (h : OutN w B N v L) (g : Gr w w') : OutN w' B N v L := h.only (g.only (fun _ => False)) (fun _ h => h.elim)
theorem OutN.to {N' : Nat → Prop} (h : OutN w B N v L) (hs : ∀ b, b < w.heap.size → N' b → N b) : OutN w B N' v L := by
  obtain ⟨xs, h1, hN, h2⟩ := h
  refine ⟨xs, h1, fun b hb hn => ?_, fun j hj => ?_⟩
  · rcases h1.2 with ⟨e, _⟩ | ⟨g', cap, cur, e, k2, k3, k4⟩
    · rw [e] at hb; simp [Value.ownBlock] at hb
    · have : b = g' := by rw [e] at hb; simpa [Value.ownBlock] using hb.symm
      subst this
      exact hN b hb (hs b (Array.getElem?_eq_some_iff.1 k3).1 hn)
  · obtain ⟨ad, n, c, k1, k2, k3, k4⟩ := h2 j hj
    exact ⟨ad, n, c, k1, k2, k3, fun hn => k4 (hs _ k3.lt hn)⟩
theorem OutN.own (h : OutN w B N v L) {b : Nat} (hb : v.ownBlock = some b) : B ≤ b ∧ b < w.heap.size ∧ ¬ N b ∧ ¬ Is3 w b := by
  obtain ⟨xs, h1, hN, h2⟩ := h
  refine ⟨(own_block h1 hb).1, ?_, hN b hb, (own_block h1 hb).2⟩
  rcases h1.2 with ⟨e, _⟩ | ⟨g', cap, cur, e, k2, k3, k4⟩
  · rw [e] at hb; simp [Value.ownBlock] at hb
  · have : b = g' := by rw [e] at hb; simpa [Value.ownBlock] using hb.symm
    subst this
    exact (Array.getElem?_eq_some_iff.1 k3).1
/-- the slice, and what it holds -/
theorem OutN.shape (h : OutN w B N v L) (h0 : 0 < L.length) : ∃ (g c : Nat) (xs : List Value), v = .slice (some ⟨g, 0, none⟩) L.length c ∧ (∃ cur, w.heap[g]? = some (.cells cur 26)) ∧ B ≤ g ∧ ¬ N g ∧ (∀ j v, xs[j]? = some v → w.cell? ⟨g, j, none⟩ = some v) ∧ xs.length = L.length ∧ (∀ j, j < L.length → ∃ ad n c, xs[j]? = some (.slice (some ad) n c) ∧ Ints w (some ad) n (L[j]?.getD []) ∧ Is3 w ad.block ∧ ¬ N ad.block) := by
  obtain ⟨xs, h1, hN, h2⟩ := h
  rcases h1.2 with ⟨e, h0'⟩ | ⟨g, cap, cur, rfl, k2, k3, k4⟩
  · omega
  · refine ⟨g, cap, xs, rfl, ⟨cur, k3⟩, k2, hN g rfl, fun j v hj => ?_, by simpa using h1.1, h2⟩
    have := h1.cells (g := g) rfl j v hj
    have e : (⟨g, 0, none⟩ : Addr).add j = ⟨g, j, none⟩ := by
      cases j <;> simp [Addr.add]
    rw [e] at this
    exact this
theorem OutN.one {g n c b : Nat} {ad : Addr} {y : List Int} (hg : w.heap[b]? = some (.cells #[.slice (some ad) n c] 26)) (hB : B ≤ b) (hN : ¬ N b) (hy : Ints w (some ad) n y) (h3 : Is3 w ad.block) (hNa : ¬ N ad.block) : OutN w B N (.slice (some ⟨b, 0, none⟩) 1 1) [y] := by
  refine ⟨[.slice (some ad) n c], ⟨rfl, .inr ⟨b, 1, _, rfl, hB, hg, Nat.le_refl _, by unfold maxLen; omega, rfl, rfl⟩⟩, fun x hx => by simp [Value.ownBlock] at hx; subst hx; exact hN, fun j hj => ?_⟩
  obtain rfl : j = 0 := by simpa using hj
  exact ⟨ad, n, c, rfl, hy, h3, hNa⟩
end
theorem wp_pushN {N : Nat → Prop} {B : Nat} {o : Oper} {a : Act} {W : World} {K : Act → World → Prop} {Q : Exit → Act → World → Prop} {s x : Operand} {v : Value} {L : List (List Int)} {ad : Addr} {n c g : Nat} {y : List Int}
    (ho : o.op = .call { callee := .builtin .append, args := #[s, x], argTypes := #[22, 22] }) (hs : a.eval s = v) (hx : a.eval x = .slice (some ⟨g, 0, none⟩) 1 1)
    (hg : W.heap[g]? = some (.cells #[.slice (some ad) n c] 26)) (hO : OutN W B N v L) (hB : B ≤ W.heap.size) (hy : Ints W (some ad) n y) (h3 : Is3 W ad.block) (hNa : ¬ N ad.block) (hNs : ¬ N W.heap.size) (hl : L.length ≤ 1000000)
    (h : ∀ v' w', OutN w' B N v' (L ++ [y]) → Only (fun b => v.ownBlock = some b) W w' → (v'.ownBlock = v.ownBlock ∨ v'.ownBlock = some W.heap.size) → K (a.put o.dst v') w') : o.wp Try.prog a W K Q := by
  obtain ⟨i0, hi, hz0, hz1, hz2⟩ := info_parts Try.info26
  have hO0 := hO
  obtain ⟨ov, hown, hN, hrw⟩ := hO
  obtain ⟨v', w', hr, hown', hgrow, _, hat⟩ := run_append_own_at (P := Try.prog) W B 22 o.type 26 i0 (.slice none 0 0) 1 24 Try.underlying22 hi hz0 hz1 hz2 rfl (by decide) v L.length ov hown ⟨g, 0, none⟩ 1 1 [.slice (some ad) n c] rfl (one_cell_at hg) (fun u hu => by simp at hu; subst hu; rfl) (by unfold maxLen; omega) (by omega) hB
  have hO' := only_grown hgrow
  have hrun : (execOp a.eval o).run Try.prog W = .ok (.value v') w' := by
    unfold execOp
    simp only [ho, resolve, invoke, builtin, Sem.run_bind, Sem.run_pure, Result.andThen_ok, List.map_toArray, List.map_cons, List.map_nil, hs, hx, hr]
  unfold Oper.wp
  rw [hrun]
  have hb : ∀ b, v.ownBlock = some b → ¬ Is3 W b := fun b e => (own_block hown e).2
  refine h v' w' ⟨_, by simpa using hown', fun b hb hn => ?_, fun j hj => ?_⟩ hO' hat
  · rcases hat with e | e
    · rw [e] at hb; exact hN b hb hn
    · rw [e] at hb; injection hb with hb; subst hb; exact hNs hn
  have hxl : ov.length = L.length := by simpa using hown.1
  by_cases e : j = L.length
  · subst e
    refine ⟨ad, n, c, by rw [← hxl]; simp, ?_, h3.only hO' (fun e => hb _ e h3), hNa⟩
    have hxx : (L ++ [y])[L.length]?.getD [] = y := by simp
    rw [hxx]
    exact hy.onlyAt hO' (fun ad' e => by cases e; exact fun e => hb _ e h3)
  · have hj' : j < L.length := by simp at hj; omega
    obtain ⟨ad', n', c', k1, k2, k3, k4⟩ := hrw j hj'
    refine ⟨ad', n', c', by rw [List.getElem?_append_left (by omega)]; exact k1, ?_, k3.only hO' (fun e => hb _ e k3), k4⟩
    rw [List.getElem?_append_left hj']
    exact k2.onlyAt hO' (fun ad2 e => by cases e; exact fun e => hb _ e k3)
end
section
open Go.RowKit

set_option maxHeartbeats 1000000 in
theorem states1_anyG (wB W0 : World) (S Y : Nat → Prop) (J : List (List Int) → World → Prop) (Jx : World → Prop) (f : Fl) (ta ca fa toa : Option Addr) (tn tc cn cc n fc toc : Nat) (lo hi : List Int) (bfr bfl bto l : Nat)
    (hb : SBase wB S f ta tn ca cn fa toa n lo hi) (hbase : Only S wB W0) (hYS : ∀ b, Y b → S b) (hYlt : ∀ b, Y b → b < W0.heap.size ∨ W0.heap.size + 2 < b)
    (c1 : W0.cell? ⟨bfr, 0, none⟩ = some (.slice fa n fc)) (c2 : W0.cell? ⟨bfl, 0, none⟩ = some (.slice ta tn tc)) (c3 : W0.cell? ⟨bfl, 1, none⟩ = some (.slice ca cn cc)) (c4 : W0.cell? ⟨bto, 0, none⟩ = some (.slice toa n toc))
    (n1 : ¬ Y bfr) (n2 : ¬ Y bfl) (n3 : ¬ Y bto) (hJ0 : J [] W0) (hJ : ∀ done W W', J done W → Only (fun b => b = W0.heap.size + 2) W W' → J done W') (hJx : ∀ W W', Jx W → Gr W W' → Jx W')
    (hY : ∀ done x rest W a c, J done W → Only S wB W → Ints W (some a) n x → Is3 W a.block → W0.heap.size + 2 < a.block → enum f lo hi n [] = done ++ x :: rest → StOk f x → worksB f x = true →
      YieldAt Fence.wide 0 Try.prog l #[.slice (some a) n c] W fun e W' => (e = .returned (.bool true) ∧ J (done ++ [x]) W' ∧ Only Y W W') ∨ (e = .returned (.bool false) ∧ Jx W')) :
    Calls Try.prog 90 #[.func (.yield l) #[] #[], .pointer (some ⟨bfr, 0, none⟩), .pointer (some ⟨bfl, 0, none⟩), .pointer (some ⟨bto, 0, none⟩)] W0 (SPost J Jx (enum f lo hi n [])) := by
  have hn6 : n ≤ 6 := by have := hb.ok.n6; have := hb.nt; omega
  obtain ⟨q, hq⟩ : ∃ q : NP, q = ⟨bfr, bfl, W0.heap.size, bto, W0.heap.size + 1, W0.heap.size + 2, l, fa, fc, ta, tn, tc, ca, cn, cc, toa, toc, n, f, lo, hi, wB, S⟩ := ⟨_, rfl⟩
  have hsz0 : wB.heap.size ≤ W0.heap.size := hbase.size
  have H : NHyp q Y J Jx (enum f lo hi n []) := by
    subst hq
    refine ⟨hb.ok, hb.n1, hb.nt, hb.lo0, hb.hi1, ?_, fun h => by have := hYlt _ h; simp only at this; omega, fun done W W' hj ho => hJ done W W' hj ho, hJx, ?_⟩
    · intro W W' hE ho
      have hbs : Only S wB W' := hE.base.trans (ho.mono (fun b _ h => by
        rcases h with h | h
        · exact hYS b h
        · subst h; exact hb.new _ (by simp; omega)))
      have hk : ∀ (p : Addr) (v : Value), W.cell? p = some v → ¬ Y p.block → p.block ≠ W0.heap.size + 2 → W'.cell? p = some v := fun p v hc h1 h2 => ho.cell hc (fun h => h.elim h1 h2)
      have l1 := lt_cell c1
      have l2 := lt_cell c2
      have l4 := lt_cell c4
      simp only at l1 l2 l4
      refine ⟨hk _ _ hE.cfr n1 (by simp only; omega), hk _ _ hE.cfl0 n2 (by simp only; omega), hk _ _ hE.cfl1 n2 (by simp only; omega), hk _ _ hE.cy (fun h => by have := hYlt _ h; simp only at this; omega) (by simp), hk _ _ hE.cto n3 (by simp only; omega), hk _ _ hE.cn_ (fun h => by have := hYlt _ h; simp only at this; omega) (by simp),
        (hb.keep _ hbs).1, (hb.keep _ hbs).2.1, (hb.keep _ hbs).2.2, Nat.lt_of_lt_of_le hE.pl ho.size, hbs⟩
    · intro done x rest W a c hj hE hi h3 hp hall hst hw
      exact hY done x rest W a c hj hE.base hi h3 hp hall hst hw
  obtain ⟨w2, hw2⟩ : ∃ w2, (W0.alloc (.cells #[.func (.yield l) #[] #[]] 118)).alloc (.cells #[.func (.func 91) #[] #[.pointer (some ⟨bfr, 0, none⟩), .pointer (some ⟨bfl, 0, none⟩), .pointer (some ⟨W0.heap.size, 0, none⟩), .pointer (some ⟨bto, 0, none⟩), .pointer (some ⟨W0.heap.size + 1, 0, none⟩)]] 118) = w2 := ⟨_, rfl⟩
  have g2 : Gr W0 w2 := by rw [← hw2]; exact (Gr.alloc _ _).allocR _
  have s2 : w2.heap.size = W0.heap.size + 2 := by rw [← hw2]; simp
  have cy2 : w2.cell? ⟨W0.heap.size, 0, none⟩ = some (.func (.yield l) #[] #[]) := by
    rw [← hw2, (Gr.alloc _ _).cell (by simp)]; exact cell_new rfl
  have cn2 : w2.cell? ⟨W0.heap.size + 1, 0, none⟩ = some (.func (.func 91) #[] #[.pointer (some ⟨bfr, 0, none⟩), .pointer (some ⟨bfl, 0, none⟩), .pointer (some ⟨W0.heap.size, 0, none⟩), .pointer (some ⟨bto, 0, none⟩), .pointer (some ⟨W0.heap.size + 1, 0, none⟩)]) := by
    rw [← hw2]; simp
  have c12 := (g2.cell (lt_cell c1)).trans c1
  have HQ := Lib.hid hq
  have S2 := Lib.hid s2
  go_enter Try.func90, Try.ntmps90
  go_wp2_with fail
  clear hw2
  refine (wpIn_wide (n := 0)).1 ?_
  refine region_inv (F := Fence.wide) (by kernel_rfl) (by rfl) (by decide) (fun _ => trivial)
    (fun done' u W' => Kn [some (.func (.func 91) #[] #[.pointer (some ⟨bfr, 0, none⟩), .pointer (some ⟨bfl, 0, none⟩), .pointer (some ⟨W0.heap.size, 0, none⟩), .pointer (some ⟨bto, 0, none⟩), .pointer (some ⟨W0.heap.size + 1, 0, none⟩)]), some (.slice fa n fc), some (.int .i64 (n : Int)), some (.slice (some ⟨W0.heap.size + 2, 0, none⟩) 0 n), none] done' u ∧ R3 q J Jx (enum f lo hi n []) w2 done' u W')
    (fun u => ⟨Kn.start _ _, ⟨fun _ => Gr.drew w2, fun _ => rfl, (fun _ h => by cases h), (fun h => by cases h)⟩⟩) ⟨?_, ?_, ?_, ?_, ?_, trivial⟩ ?_
  · rintro u done' W' hd hanc hclo ⟨hk, hR⟩
    have hg := hR.gr (not_done hclo hd 4 rfl (by kernel_rfl))
    have hc := (hg.cell (lt_cell cn2)).trans cn2
    refine op_plain (ro := none) rfl (fun c h => by cases h) fun K hK => ?_
    simp only [fillL, List.setIfInBounds_toArray, List.set_cons_zero, List.set_cons_succ, Nat.zero_add, Nat.reduceAdd] at hK ⊢
    go_simp
    exact hK _ _ ⟨hk.new rfl, hR.quiet (by decide) _⟩
  · rintro u done' W' hd hanc hclo ⟨hk, hR⟩
    have hg := hR.gr (not_done hclo hd 4 rfl (by kernel_rfl))
    have hc := (hg.cell (lt_cell c12)).trans c12
    refine op_plain (ro := none) rfl (fun c h => by cases h) fun K hK => ?_
    simp only [fillL, List.setIfInBounds_toArray, List.set_cons_zero, List.set_cons_succ, Nat.zero_add, Nat.reduceAdd] at hK ⊢
    go_simp
    exact hK _ _ ⟨hk.new rfl, hR.quiet (by decide) _⟩
  · rintro u done' W' hd hanc hclo ⟨hk, hR⟩
    have e1 := hk.get 1 rfl (hanc 1 (mem_of (by kernel_rfl)))
    refine op_plain (ro := none) rfl (fun c h => by cases h) fun K hK => ?_
    simp only [fillL, List.setIfInBounds_toArray, List.set_cons_zero, List.set_cons_succ, Nat.zero_add, Nat.reduceAdd, e1] at hK ⊢
    go_simp
    exact hK _ _ ⟨hk.new rfl, hR.quiet (by decide) _⟩
  · rintro u done' W' hd hanc hclo ⟨hk, hR⟩
    have e2 := hk.get 2 rfl (hanc 2 (mem_of (by kernel_rfl)))
    have h4 : done' 4 = false := not_done hclo hd 4 rfl (by kernel_rfl)
    have hg := hR.gr h4
    have hsz := (hR.sz hd).trans S2.out
    have hmk := run_makeSlice_ints W' n hn6
    rw [hsz] at hmk
    refine op_plain (ro := none) rfl (fun c h => by cases h) fun K hK => ?_
    simp only [fillL, List.setIfInBounds_toArray, List.set_cons_zero, List.set_cons_succ, Nat.zero_add, Nat.reduceAdd, e2] at hK ⊢
    have HS := Lib.hid hsz
    clear hsz
    go_simp
    refine hK _ _ ⟨hk.new rfl, ⟨fun _ => hg.allocR _, (fun h => by rw [upd_self] at h; cases h), fun _ _ => ⟨⟨List.replicate n (.int .i64 0), ?_, by rw [HQ.out]; simp⟩, ?_⟩, (fun h => by rw [upd_ne (by decide), h4] at h; cases h)⟩⟩
    · rw [HQ.out]; simp only; rw [← HS.out]; exact World.alloc_heap_new _ _
    · rw [HQ.out]; simp only [World.size_alloc]; rw [HS.out]; omega
  · rintro u done' W' hd hanc hclo ⟨hk, hR⟩
    have e0 := hk.get 0 rfl (hanc 0 (mem_of (by kernel_rfl)))
    have e3 := hk.get 3 rfl (hanc 3 (mem_of (by kernel_rfl)))
    have hg := hR.gr hd
    obtain ⟨hbuf, hpl⟩ := hR.buf hd (hanc 3 (mem_of (by kernel_rfl)))
    have hgg := g2.trans hg
    have hbs : Only S wB W' := hbase.thenGr hgg
    have hE : NEnv q W' := by
      rw [HQ.out] at hpl ⊢
      exact ⟨(hgg.cell (lt_cell c1)).trans c1, (hgg.cell (lt_cell c2)).trans c2, (hgg.cell (lt_cell c3)).trans c3, (hg.cell (lt_cell cy2)).trans cy2, (hgg.cell (lt_cell c4)).trans c4, (hg.cell (lt_cell cn2)).trans cn2, (hb.keep _ hbs).1, (hb.keep _ hbs).2.1, (hb.keep _ hbs).2.2, hpl, hbs⟩
    have hall : enum f lo hi n [] = [] ++ (enum q.f q.lo q.hi n [] ++ []) := by rw [HQ.out]; simp
    have hcon := next_any q Y J Jx (enum f lo hi n []) H n [] [] [] W' (by rw [HQ.out]; simp) (fun c h => by simp at h) hE hbuf (hJ _ _ _ hJ0 (hgg.only _)) hall
    have hpost : ∀ e W'', NPost q J Jx [] ([] ++ enum q.f q.lo q.hi n []) e W'' → (∃ v, e = .returned v) ∧ (J (enum f lo hi n []) W'' ∨ Jx W'') := by
      rw [HQ.out]
      rintro e W'' (⟨h1, h2, _⟩ | ⟨h1, h2⟩)
      · exact ⟨⟨_, h1⟩, .inl (by simpa using h2)⟩
      · exact ⟨⟨_, h1⟩, .inr h2⟩
    have hcon2 : Calls Try.prog 91 #[.slice (some ⟨W0.heap.size + 2, 0, none⟩) 0 n, .pointer (some ⟨bfr, 0, none⟩), .pointer (some ⟨bfl, 0, none⟩), .pointer (some ⟨W0.heap.size, 0, none⟩), .pointer (some ⟨bto, 0, none⟩), .pointer (some ⟨W0.heap.size + 1, 0, none⟩)] W' (fun e W'' => (∃ v, e = .returned v) ∧ (J (enum f lo hi n []) W'' ∨ Jx W'')) := by
      have := hcon.mono hpost
      rw [HQ.out] at this
      exact this
    have HCON := Lib.hid hcon2
    clear hcon hcon2 hpost hall
    refine op_plain (ro := none) rfl (fun c h => by cases h) fun K hK => ?_
    simp only [fillL, List.setIfInBounds_toArray, List.set_cons_zero, List.set_cons_succ, Nat.zero_add, Nat.reduceAdd, e0, e3] at hK ⊢
    go_simp
    refine HCON.out.mono ?_
    rintro e w3 ⟨⟨v, rfl⟩, hfin⟩
    exact hK _ _ ⟨hk.skip rfl, ⟨(fun h => by rw [upd_self] at h; cases h), (fun h => by rw [upd_ne (by decide), hanc 3 (mem_of (by kernel_rfl))] at h; cases h), (fun h => by rw [upd_self] at h; cases h), fun _ => hfin⟩⟩
  · rintro u W' ⟨done', hdn, hk, hR⟩
    have hf := hR.fin (hdn 4 (by decide))
    go_wp2
    go_end0
    exact ⟨⟨_, rfl⟩, hf⟩
end
section
open Go.RowKit

theorem range_statesG {g : Operand} {pt : Tmp} {assign body : Code} {Q : Exit → Act → World → Prop} {a : Act} {w wB : World} {S Y : Nat → Prop} {f : Fl} {ta ca fa toa : Option Addr} {tn tc cn cc n fc toc : Nat} {lo hi : List Int} {bfr bfl bto : Nat}
    (hg : a.eval g = .func (.func 90) #[] #[.pointer (some ⟨bfr, 0, none⟩), .pointer (some ⟨bfl, 0, none⟩), .pointer (some ⟨bto, 0, none⟩)])
    (hb : SBase wB S f ta tn ca cn fa toa n lo hi) (hbase : Only S wB w) (hYS : ∀ b, Y b → S b) (hYlt : ∀ b, Y b → b < w.heap.size ∨ w.heap.size + 4 < b)
    (c1 : w.cell? ⟨bfr, 0, none⟩ = some (.slice fa n fc)) (c2 : w.cell? ⟨bfl, 0, none⟩ = some (.slice ta tn tc)) (c3 : w.cell? ⟨bfl, 1, none⟩ = some (.slice ca cn cc)) (c4 : w.cell? ⟨bto, 0, none⟩ = some (.slice toa n toc))
    (n1 : ¬ Y bfr) (n2 : ¬ Y bfl) (n3 : ¬ Y bto) (I : List (List Int) → World → Prop) (Ix : Code → World → Prop)
    (h0 : I [] w) (hI : ∀ xs W W', I xs W → Only (fun b => b = w.heap.size + 1 ∨ b = w.heap.size + 4) W W' → I xs W')
    (hIx : ∀ c W W', Ix c W → Only (fun b => b = w.heap.size + 1) W W' → Ix c W') (a₁ : Value → Act)
    (hassign : ∀ (l : Nat) (v : Value) (W : World) (K : Act → World → Prop), K (a₁ v) W → assign.wpIn (Fence.wide.inRound l) 0 Try.prog (Exit.then K (fun _ _ _ => False)) { tmps := a.tmps.setIfInBounds pt v, defers := [] } W)
    (hbody : ∀ (pre : List (List Int)) (x : List Int) (ad : Addr) (c : Nat) (W : World), I pre W → Only S wB W → Ints W (some ad) n x → w.heap.size + 4 < ad.block → Is3 W ad.block → (∃ rest, enum f lo hi n [] = pre ++ x :: rest) → StOk f x → worksB f x = true →
      body.wpIn (Fence.wide.inRound (w.heap.size + 1)) 0 Try.prog (roundQ Y I Ix (pre ++ [x]) W) (a₁ (.slice (some ad) n c)) W)
    (hdone : ∀ (W : World), I (enum f lo hi n []) W → W.heap[w.heap.size]? = some (.deferred (some [])) → Q .normal { a with defers := { target := .collected w.heap.size, args := #[] } :: a.defers } W)
    (hstop : ∀ (c : Code) (W : World), Ix c W → W.heap[w.heap.size]? = some (.deferred (some [])) → c.wpIn Fence.wide 0 Try.prog Q { a with defers := { target := .collected w.heap.size, args := #[] } :: a.defers } W) :
    (Code.rangeFunc g #[pt] assign body).wp Try.prog Q a w := by
  have hsz := hbase.size
  refine range_rule2 (P := Try.prog) (α := List Int) (gf := 90) (lb := #[.pointer (some ⟨bfr, 0, none⟩), .pointer (some ⟨bfl, 0, none⟩), .pointer (some ⟨bto, 0, none⟩)]) hg (Go.Proofs.enters_of Try.func90 (by kernel_rfl) rfl)
    I Ix Y (SArg2 wB w S f lo hi n) (fun xs => xs = enum f lo hi n []) (fun args => a₁ (args.getD 0 undef)) (fun h => by have := hYlt _ h; omega) (fun h => by have := hYlt _ h; omega)
    (fun xs W o h => hI xs W _ h ((putObj_only _ _ _).mono' (fun i e => .inl e))) (fun c W o h => hIx c W _ h (putObj_only _ _ _))
    (fun pre x args W h => by obtain ⟨ad, c, rfl, _⟩ := h; rfl)
    (fun pre x args W o h => by
      obtain ⟨ad, c, h1, h2, h3, h4, h5, h6, h7, h8⟩ := h
      exact ⟨ad, c, h1, h2.onlyAt (putObj_only _ _ _) (fun ad' e hS => by cases e; omega), h3, h4, h5, h6, h7.trans ((putObj_only _ _ _).mono' (fun i e => by subst e; exact hb.new _ (by omega))), h8.only (putObj_only _ _ _) (by omega)⟩)
    h0 (fun xs W o h => hI xs W _ h (alloc_only _ _ _)) (fun l pre x args W K hE hK => by
      obtain ⟨ad, c, rfl, _⟩ := hE
      have h1 := hassign l (.slice (some ad) n c) W K hK
      simpa using h1)
    (fun pre x args W hi hE _ => by
      obtain ⟨ad, c, rfl, h2, h3, h4, h5, h6, h7, h8⟩ := hE
      exact hbody pre x ad c W hi h7 h2 h3 h8 h4 h5 h6) ?_ (fun xs W hS hi hk => by subst hS; exact hdone W hi hk) hstop
  intro L hLs hLp hyield hstart
  obtain ⟨W0, hW0⟩ : ∃ W0, (w.alloc (.deferred (some []))).alloc (.loop L) = W0 := ⟨_, rfl⟩
  have g0 : Gr w W0 := by rw [← hW0]; exact (Gr.alloc _ _).allocR _
  have s0 : W0.heap.size = w.heap.size + 2 := by rw [← hW0]; simp
  rw [hW0] at hstart ⊢
  refine callsIn_wide.2 ?_
  have hcall := states1_anyG wB W0 S Y (Between w.heap.size L I) (Left w.heap.size L Ix) f ta ca fa toa tn tc cn cc n fc toc lo hi bfr bfl bto (w.heap.size + 1) hb (hbase.thenGr g0) hYS (fun b h => by have := hYlt b h; omega)
    ((g0.cell (lt_cell c1)).trans c1) ((g0.cell (lt_cell c2)).trans c2) ((g0.cell (lt_cell c3)).trans c3) ((g0.cell (lt_cell c4)).trans c4) n1 n2 n3 hstart
    (fun done W W' h ho => by
      rw [s0] at ho
      obtain ⟨hi, hl, hk⟩ := h
      have l1 := (Array.getElem?_eq_some_iff.1 hl).1
      have l2 := (Array.getElem?_eq_some_iff.1 hk).1
      exact ⟨hI _ _ _ hi (ho.mono' (fun i e => .inr e)), (ho.block _ l1 (by omega)).trans hl, (ho.block _ l2 (by omega)).trans hk⟩)
    (fun W W' h g => by
      obtain ⟨c, hi, hl, hk⟩ := h
      have l1 := (Array.getElem?_eq_some_iff.1 hl).1
      have l2 := (Array.getElem?_eq_some_iff.1 hk).1
      exact ⟨c, hIx _ _ _ hi (g.only _), (g.below.block _ l1).trans hl, (g.below.block _ l2).trans hk⟩)
    (fun done x rest W ad c hj hon hin h3 hp hall hst hw => by
      have hE : SArg2 wB w S f lo hi n done x #[.slice (some ad) n c] W := ⟨ad, c, rfl, hin, by omega, ⟨rest, hall⟩, hst, hw, hon, h3⟩
      exact (hyield done x _ W hj hE).mono (fun e W' h => by
        rcases h with ⟨h1, h2, h3⟩ | ⟨h1, h2⟩
        · exact .inl ⟨h1, h2, h3⟩
        · exact .inr ⟨h1, h2⟩))
  refine hcall.mono (fun e W' h => ?_)
  obtain ⟨hv, h | h⟩ := h
  · exact ⟨hv, .inl ⟨_, rfl, h⟩⟩
  · exact ⟨hv, .inr h⟩
namespace Y
variable {N : Nat} {L : List (Nat × Value)} {g : Operand} {pt : Tmp} {body : Code} {Q : Exit → Act → World → Prop} {A : Act} {w wB : World} {S Y : Nat → Prop} {f : Fl} {ta ca fa toa : Option Addr} {tn tc cn cc n fc toc : Nat} {lo hi : List Int} {bfr bfl bto : Nat}
theorem fr_roundG {D : List Deferred} (F : Fr A N L D) {pt : Nat} (hp : pt < N) (v : Value) : Fr { tmps := A.tmps.setIfInBounds pt v, defers := [] } N (X.putS L (some pt) v) := by
  have h := F.put (o := some pt) (v := v) (by simpa using hp)
  exact ⟨h.sz, rfl, h.get⟩
theorem fr_markG {D : List Deferred} (F : Fr A N L D) (d : Deferred) : Fr { A with defers := d :: A.defers } N L (d :: D) := ⟨F.sz, by rw [← F.df], F.get⟩
/-- a list of marks -/
def marks (ks : List Nat) : List Deferred := ks.map fun k => { target := .collected k, args := #[] }
/-- the world when all of them are shut -/
def shut (W : World) (ks : List Nat) : World := ks.foldl (fun W k => W.putObj k (.deferred none)) W
theorem shut_only (ks : List Nat) : ∀ W, Only (fun b => b ∈ ks) W (shut W ks) := by
  induction ks with
  | nil => exact fun W => (Gr.refl W).only _
  | cons k ks ih => exact fun W => ((putObj_only W k _).mono' (fun i e => by subst e; simp)).trans ((ih _).mono' (fun i e => by simp [e]))
theorem leavesM {P : Program} {fn : Func} {tmps : Array Value} {R : Ending → World → Prop} {v : Value} (ks : List Nat) : ∀ W, ks.Nodup → (∀ k ∈ ks, W.heap[k]? = some (.deferred (some []))) → (results fn tmps).run P (shut W ks) = .ok v (shut W ks) → R (.returned v) (shut W ks) →
    LeavesInM Fence.wide 0 P fn tmps R (marks ks) .returning W := by
  induction ks with
  | nil => exact fun W _ _ hr hR => ⟨v, hr, hR⟩
  | cons k ks ih =>
    intro W hn hk hr hR
    rw [List.nodup_cons] at hn
    refine ⟨by simp, .inl ⟨k, _, rfl, run_takeDeferred (hk k (by simp)), ih _ hn.2 (fun j hj => ?_) hr hR⟩⟩
    exact (World.putObj_heap_other (fun e => hn.1 (by subst e; exact hj))).trans (hk j (by simp [hj]))
/-- a return behind some ranges -/
theorem retM {P : Program} {n : Nat} {W : World} {fn : Func} {R : Ending → World → Prop} {v : Value} {ks : List Nat} (F : Fr A n L (marks ks)) (hn : ks.Nodup) (hk : ∀ k ∈ ks, W.heap[k]? = some (.deferred (some []))) (hr : (results fn A.tmps).run P (shut W ks) = .ok v (shut W ks)) (h : R (.returned v) (shut W ks)) : bodyPostM Fence.wide 0 P fn R .ret A W := by
  show LeavesInM _ _ _ _ _ _ A.defers _ _
  rw [F.df]
  exact leavesM ks W hn hk hr h
/-- 'for x := range states(..)' -/
theorem range1G {D : List Deferred} {id d : Nat} {o : Oper} (F : Fr A N L D) (hp : pt < N) (hd : d < N) (ho : o.op = .assign (.tmp pt)) (hgd : o.guard = none) (hdd : o.dst = some d)
    (hg : A.eval g = .func (.func 90) #[] #[.pointer (some ⟨bfr, 0, none⟩), .pointer (some ⟨bfl, 0, none⟩), .pointer (some ⟨bto, 0, none⟩)])
    (hb : SBase wB S f ta tn ca cn fa toa n lo hi) (hbase : Only S wB w) (hYS : ∀ b, Y b → S b) (hYlt : ∀ b, Y b → b < w.heap.size ∨ w.heap.size + 4 < b)
    (c1 : w.cell? ⟨bfr, 0, none⟩ = some (.slice fa n fc)) (c2 : w.cell? ⟨bfl, 0, none⟩ = some (.slice ta tn tc)) (c3 : w.cell? ⟨bfl, 1, none⟩ = some (.slice ca cn cc)) (c4 : w.cell? ⟨bto, 0, none⟩ = some (.slice toa n toc))
    (n1 : ¬ Y bfr) (n2 : ¬ Y bfl) (n3 : ¬ Y bto) (I : List (List Int) → World → Prop)
    (h0 : I [] w) (hI : ∀ xs W W', I xs W → Only (fun b => b = w.heap.size + 1 ∨ b = w.heap.size + 4) W W' → I xs W')
    (hbody : ∀ (pre : List (List Int)) (x : List Int) (ad : Addr) (c : Nat) (W : World) (A : Act), I pre W → Only S wB W → Ints W (some ad) n x → w.heap.size + 4 < ad.block → Is3 W ad.block → (∃ rest, enum f lo hi n [] = pre ++ x :: rest) → StOk f x → worksB f x = true → Fr A N (X.putS (X.putS L (some pt) (.slice (some ad) n c)) (some d) (.slice (some ad) n c)) →
      body.wpIn (FW (some (w.heap.size + 1))) 0 Try.prog (roundQ Y I (fun _ _ => False) (pre ++ [x]) W) A W)
    (hdone : ∀ (W : World) (A : Act), I (enum f lo hi n []) W → W.heap[w.heap.size]? = some (.deferred (some [])) → Fr A N L ({ target := .collected w.heap.size, args := #[] } :: D) → Q .normal A W) :
    (Code.rangeFunc g #[pt] (.region id #[o] false) body).wpIn (FW none) 0 Try.prog Q A w := by
  refine (wpIn_wide (n := 0)).2 ?_
  refine range_statesG (a := A) (a₁ := fun v => ({ tmps := A.tmps.setIfInBounds pt v, defers := [] } : Act).put (some d) v) hg hb hbase hYS hYlt c1 c2 c3 c4 n1 n2 n3 I (fun _ _ => False) h0 hI (fun _ _ _ h _ => h.elim) (fun l v W K hK => ?_) (fun pre x ad c W h1 h2 h3 h4 h5 h6 h7 h8 => ?_) (fun W h1 h2 => ?_) (fun _ _ h => h.elim)
  · refine wpIn_region_L (ro := some l) (l := [o]) (by simp [ho]) ?_
    refine wpL_step fun K' hK' => ?_
    rw [if_pos (X.w0 hgd)]
    have hF := fr_roundG F hp v
    unfold Oper.wp
    rw [X.assign ho (hF.ev pt v (by simp [X.putS, lookS]))]
    refine hK' _ _ ?_
    rw [hdd]
    exact hK
  · exact hbody pre x ad c W _ h1 h2 h3 h4 h5 h6 h7 h8 ((fr_roundG F hp _).put (o := some d) (by simpa using hd))
  · exact hdone W _ h1 h2 (fr_markG F _)
end Y
end
section
/-- a plan leads there -/
def Rp (f : Fl) (bu : Int) (xs t : List Int) : Prop := ∃ L, okPlan f bu xs L ∧ (∀ x ∈ L, StOk f x) ∧ lastOf xs L = t
theorem Rp_iff {f : Fl} {bu : Int} {xs t : List Int} (hok : FlOk f) (hs : StOk f xs) (ht : StOk f t) : (bestV f t bu xs).is = true ↔ Rp f bu xs t := by
  constructor
  · intro h
    obtain ⟨h1, h2, _, _, h5⟩ := path_ok (bu := bu) ht (gap xs t) xs (Nat.le_refl _) hs h
    exact ⟨_, h1, h5, h2⟩
  · rintro ⟨L, h1, h2, h3⟩
    exact (best_min hok ht L xs hs h2 h1 h3).1
theorem lastOf_snoc : ∀ (L : List (List Int)) (p t : List Int), lastOf p (L ++ [t]) = t := by
  intro L
  induction L with
  | nil => intro p t; rfl
  | cons s r ih => intro p t; exact ih s t
theorem okPlan_snoc {f : Fl} {bu : Int} : ∀ (L : List (List Int)) (p t : List Int), okPlan f bu p (L ++ [t]) ↔ okPlan f bu p L ∧ worksB f t = true ∧ stepsB f.times (lastOf p L) t bu = true := by
  intro L
  induction L with
  | nil => intro p t; simp [okPlan, lastOf]
  | cons s r ih => intro p t; simp only [List.cons_append, okPlan, lastOf, ih s t, and_assoc]
theorem Rp.refl (f : Fl) (bu : Int) (xs : List Int) : Rp f bu xs xs := ⟨[], trivial, fun x hx => by simp at hx, rfl⟩
theorem Rp.step {f : Fl} {bu : Int} {xs s t : List Int} (h : Rp f bu xs s) (ht : StOk f t) (hw : worksB f t = true) (hst : stepsB f.times s t bu = true) : Rp f bu xs t := by
  obtain ⟨L, h1, h2, h3⟩ := h
  refine ⟨L ++ [t], (okPlan_snoc L xs t).2 ⟨h1, hw, by rw [h3]; exact hst⟩, fun x hx => ?_, lastOf_snoc _ _ _⟩
  rcases List.mem_append.1 hx with hx | hx
  · exact h2 x hx
  · simp at hx; subst hx; exact ht
theorem Rp.last {f : Fl} {bu : Int} {xs t : List Int} (h : Rp f bu xs t) : t = xs ∨ ∃ s, Rp f bu xs s ∧ stepsB f.times s t bu = true ∧ worksB f t = true ∧ (s = xs ∨ (StOk f s ∧ worksB f s = true)) := by
  obtain ⟨L, h1, h2, h3⟩ := h
  rcases List.eq_nil_or_concat L with rfl | ⟨M, x, rfl⟩
  · exact .inl h3.symm
  · rw [List.concat_eq_append] at *
    rw [lastOf_snoc] at h3
    subst h3
    obtain ⟨k1, k2, k3⟩ := (okPlan_snoc M xs x).1 h1
    refine .inr ⟨lastOf xs M, ⟨M, k1, fun y hy => h2 y (by simp [hy]), rfl⟩, k3, k2, ?_⟩
    rcases List.eq_nil_or_concat M with rfl | ⟨N, y, rfl⟩
    · exact .inl rfl
    · rw [List.concat_eq_append] at *
      rw [lastOf_snoc]
      exact .inr ⟨h2 y (by simp), ((okPlan_snoc N xs y).1 k1).2.1⟩
/-- the states that can be reached, in order -/
def isR (f : Fl) (bu : Int) (xs t : List Int) : Bool := (bestV f t bu xs).is
def reachV (f : Fl) (xs : List Int) (bu : Int) : List (List Int) := (allV f).filter (isR f bu xs)
theorem reachV_asc (f : Fl) (xs : List Int) (bu : Int) : Asc (reachV f xs bu) := (allV_asc f).filter _
theorem reachV_mem {f : Fl} {xs : List Int} {bu : Int} {t : List Int} (hok : FlOk f) (hs : StOk f xs) : t ∈ reachV f xs bu ↔ StOk f t ∧ worksB f t = true ∧ Rp f bu xs t := by
  unfold reachV isR
  rw [List.mem_filter]
  constructor
  · rintro ⟨h, hi⟩
    obtain ⟨h1, h2⟩ := allV_ok h
    exact ⟨h1, h2, (Rp_iff hok hs h1).1 hi⟩
  · rintro ⟨h1, h2, h3⟩
    exact ⟨allV_has h1 h2, (Rp_iff hok hs h1).2 h3⟩

theorem all_mem {L : List (List Int)} {k : Nat} (h : k < L.length) : L[k]?.getD [] ∈ L := by rw [List.getElem?_eq_getElem h]; exact List.getElem_mem h
theorem idx_eq_of {L : List (List Int)} (ha : Asc L) {i j : Nat} (hi : i < L.length) (hj : j < L.length) (he : L[i]?.getD [] = L[j]?.getD []) : i = j := by
  unfold Asc at ha
  rw [List.pairwise_iff_getElem] at ha
  rw [List.getElem?_eq_getElem hi, List.getElem?_eq_getElem hj] at he
  simp only [Option.getD_some] at he
  rcases Nat.lt_trichotomy i j with h | h | h
  · have := ha i j hi hj h; rw [he, cmpL_self] at this; omega
  · exact h
  · have := ha j i hj hi h; rw [he, cmpL_self] at this; omega
/-- a step leads to a later state -/
theorem step_later {f : Fl} {bu : Int} {j k : Nat} (hj : j < (allV f).length) (hk : k < (allV f).length) (h : stepsB f.times ((allV f)[j]?.getD []) ((allV f)[k]?.getD []) bu = true) : j < k := by
  obtain ⟨ha, hne, _⟩ := stepsB_true h
  have h1 := (allV_ok (all_mem hj)).1
  have h2 := (allV_ok (all_mem hk)).1
  have hc := above_cmp (by rw [h1.len, h2.len]) ha (Ne.symm hne)
  have hasc := allV_asc f
  unfold Asc at hasc
  rw [List.pairwise_iff_getElem] at hasc
  rcases Nat.lt_trichotomy j k with h | h | h
  · exact h
  · subst h; exact absurd rfl hne
  · have := hasc k j hk hj h
    rw [List.getElem?_eq_getElem hj, List.getElem?_eq_getElem hk] at hc
    simp only [Option.getD_some] at hc
    have h3 := cmpL_anti (allV f)[k] (allV f)[j]
    omega
/-- the reference's table behind the first i states -/
def canV (f : Fl) (xs : List Int) (bu : Int) (i k : Nat) : Bool := decide (k = idxV (allV f) xs) || (List.range i).any fun j => isR f bu xs ((allV f)[j]?.getD []) && stepsB f.times ((allV f)[j]?.getD []) ((allV f)[k]?.getD []) bu
theorem canV_self {f : Fl} {xs : List Int} {bu : Int} {i : Nat} (hok : FlOk f) (hs : StOk f xs) (hm : xs ∈ allV f) (hi : i < (allV f).length) : canV f xs bu i i = isR f bu xs ((allV f)[i]?.getD []) := by
  have hsi := allV_ok (all_mem hi)
  have hx := idxV_at hm
  apply Bool.eq_iff_iff.2
  unfold canV
  rw [Bool.or_eq_true, decide_eq_true_eq, List.any_eq_true]
  constructor
  · rintro (h | ⟨j, hj, h⟩)
    · rw [h, hx.2]; exact (Rp_iff hok hs hs).2 (Rp.refl _ _ _)
    · simp only [List.mem_range] at hj
      rw [Bool.and_eq_true] at h
      have hsj := allV_ok (all_mem (show j < (allV f).length by omega))
      exact (Rp_iff hok hs hsi.1).2 (Rp.step ((Rp_iff hok hs hsj.1).1 h.1) hsi.1 hsi.2 h.2)
  · intro h
    rcases Rp.last ((Rp_iff hok hs hsi.1).1 h) with h1 | ⟨s, h1, h2, h3, h4⟩
    · left
      have := idx_eq_of (L := allV f) (allV_asc f) hi hx.1 (by rw [h1, hx.2])
      exact this
    · right
      have hms : s ∈ allV f := by
        rcases h4 with rfl | h4
        · exact hm
        · exact allV_has h4.1 h4.2
      have hix := idxV_at hms
      have hst : StOk f s := (allV_ok hms).1
      refine ⟨idxV (allV f) s, ?_, ?_⟩
      · rw [List.mem_range]
        refine step_later (bu := bu) hix.1 hi ?_
        rw [hix.2]; exact h2
      · rw [Bool.and_eq_true, hix.2]
        exact ⟨(Rp_iff hok hs hst).2 h1, h2⟩
theorem canV_succ {f : Fl} {xs : List Int} {bu : Int} {i k : Nat} : canV f xs bu (i + 1) k = (canV f xs bu i k || (isR f bu xs ((allV f)[i]?.getD []) && stepsB f.times ((allV f)[i]?.getD []) ((allV f)[k]?.getD []) bu)) := by
  unfold canV
  rw [List.range_succ, List.any_append, Bool.or_assoc]
  simp
end
section
theorem cmpL_vals : ∀ (x y : List Int), cmpL x y = -1 ∨ cmpL x y = 0 ∨ cmpL x y = 1 := by
  intro x
  induction x with
  | nil => intro y; cases y <;> simp [cmpL]
  | cons a x ih =>
    intro y
    cases y with
    | nil => simp [cmpL]
    | cons b y =>
      simp only [cmpL]
      split
      · exact ih y
      · unfold cmpI
        split
        · simp
        · split <;> simp
theorem nodup_len : ∀ (A B : List (List Int)), A.Nodup → (∀ x ∈ A, x ∈ B) → A.length ≤ B.length := by
  intro A
  induction A with
  | nil => intro B _ _; simp
  | cons a A ih =>
    intro B hn hs
    rw [List.nodup_cons] at hn
    have ha : a ∈ B := hs a (by simp)
    have h1 := ih (B.erase a) hn.2 (fun x hx => (List.mem_erase_of_ne (fun e => hn.1 (by subst e; exact hx))).2 (hs x (by simp [hx])))
    have h2 := List.length_erase_of_mem ha
    have h3 : 0 < B.length := List.length_pos_of_mem ha
    simp only [List.length_cons]
    omega
/-- one state that is looked at -/
def stepO (f : Fl) (bu : Int) (s : List Int) (O : List (List Int)) (t : List Int) : List (List Int) := if t ∈ O then O else if stepsB f.times s t bu = true then O ++ [t] else O
def foldO (f : Fl) (bu : Int) (s : List Int) (O pre : List (List Int)) : List (List Int) := pre.foldl (stepO f bu s) O
theorem foldO_snoc {f : Fl} {bu : Int} {s : List Int} {O pre : List (List Int)} {t : List Int} : foldO f bu s O (pre ++ [t]) = stepO f bu s (foldO f bu s O pre) t := by simp [foldO]

/-- what is held in the search -/
structure BOk (f : Fl) (bu : Int) (xs : List Int) (O : List (List Int)) : Prop where
  nd : O.Nodup
  h0 : xs ∈ O
  ok : ∀ t ∈ O, StOk f t ∧ worksB f t = true ∧ Rp f bu xs t
theorem BOk.step {f : Fl} {bu : Int} {xs s t : List Int} {O : List (List Int)} (h : BOk f bu xs O) (hs : Rp f bu xs s) (ht : StOk f t) (hw : worksB f t = true) : BOk f bu xs (stepO f bu s O t) := by
  unfold stepO
  split
  · exact h
  · rename_i hn
    split
    · rename_i hst
      refine ⟨?_, by simp [h.h0], fun x hx => ?_⟩
      · rw [List.nodup_append]
        exact ⟨h.nd, by simp, fun a ha b hb e => by simp at hb; subst hb; subst e; exact hn ha⟩
      · rcases List.mem_append.1 hx with hx | hx
        · exact h.ok x hx
        · simp at hx; subst hx; exact ⟨ht, hw, hs.step ht hw hst⟩
    · exact h
theorem stepO_pre {f : Fl} {bu : Int} {s t : List Int} {O : List (List Int)} : ∃ E, stepO f bu s O t = O ++ E := by
  unfold stepO
  split
  · exact ⟨[], by simp⟩
  · split
    · exact ⟨[t], rfl⟩
    · exact ⟨[], by simp⟩
theorem stepO_has {f : Fl} {bu : Int} {s t : List Int} {O : List (List Int)} (hst : stepsB f.times s t bu = true) : t ∈ stepO f bu s O t := by
  unfold stepO
  split
  · assumption
  · simp
theorem foldO_pre {f : Fl} {bu : Int} {s : List Int} : ∀ (pre O : List (List Int)), ∃ E, foldO f bu s O pre = O ++ E := by
  intro pre
  induction pre with
  | nil => exact fun O => ⟨[], by simp [foldO]⟩
  | cons t pre ih =>
    intro O
    obtain ⟨E1, h1⟩ := stepO_pre (f := f) (bu := bu) (s := s) (t := t) (O := O)
    obtain ⟨E2, h2⟩ := ih (stepO f bu s O t)
    refine ⟨E1 ++ E2, ?_⟩
    show foldO f bu s (stepO f bu s O t) pre = _
    rw [h2, h1, List.append_assoc]
theorem foldO_has {f : Fl} {bu : Int} {s t : List Int} : ∀ (pre O : List (List Int)), t ∈ pre → stepsB f.times s t bu = true → t ∈ foldO f bu s O pre := by
  intro pre
  induction pre with
  | nil => intro O h; simp at h
  | cons x pre ih =>
    intro O h hst
    show t ∈ foldO f bu s (stepO f bu s O x) pre
    rcases List.mem_cons.1 h with rfl | h
    · obtain ⟨E, hE⟩ := foldO_pre (f := f) (bu := bu) (s := s) pre (stepO f bu s O t)
      rw [hE]
      exact List.mem_append_left _ (stepO_has hst)
    · exact ih _ h hst
theorem BOk.fold {f : Fl} {bu : Int} {xs s : List Int} : ∀ (pre O : List (List Int)), BOk f bu xs O → Rp f bu xs s → (∀ t ∈ pre, StOk f t ∧ worksB f t = true) → BOk f bu xs (foldO f bu s O pre) := by
  intro pre
  induction pre with
  | nil => exact fun O h _ _ => h
  | cons x pre ih =>
    intro O h hs hp
    exact ih _ (h.step hs (hp x (by simp)).1 (hp x (by simp)).2) hs (fun t ht => hp t (by simp [ht]))
structure BInv (f : Fl) (bu : Int) (xs : List Int) (O : List (List Int)) (i : Nat) : Prop where
  b : BOk f bu xs O
  cl : ∀ j, j < i → ∀ t, StOk f t → worksB f t = true → stepsB f.times (O[j]?.getD []) t bu = true → t ∈ O
theorem BInv.start {f : Fl} {bu : Int} {xs : List Int} (hs : StOk f xs) (hw : worksB f xs = true) : BInv f bu xs [xs] 0 :=
  ⟨⟨by simp, by simp, fun t ht => by simp at ht; subst ht; exact ⟨hs, hw, Rp.refl _ _ _⟩⟩, fun j hj => by omega⟩
theorem BOk.len {f : Fl} {bu : Int} {xs : List Int} {O : List (List Int)} (h : BOk f bu xs O) : O.length ≤ (allV f).length :=
  nodup_len _ _ h.nd (fun x hx => allV_has (h.ok x hx).1 (h.ok x hx).2.1)
theorem BOk.at {f : Fl} {bu : Int} {xs : List Int} {O : List (List Int)} (h : BOk f bu xs O) {i : Nat} (hi : i < O.length) : StOk f (O[i]?.getD []) ∧ worksB f (O[i]?.getD []) = true ∧ Rp f bu xs (O[i]?.getD []) :=
  h.ok _ (all_mem hi)
theorem newest_has {f : Fl} {s t : List Int} (hs : StOk f s) (ht : StOk f t) (hw : worksB f t = true) (ha : aboveV t s = true) {n : Nat} (hn : f.times.length = n) : t ∈ enum f s (newestV f) n [] := by
  have h := enum_has (f := f) (lo := s) (hi := newestV f) hw ⟨by rw [ht.len, hs.len], fun c hc => aboveV_le ha c (by rw [ht.len, ← hs.len]; exact hc), fun c hc => by
    have hc' : c < f.times.length := by rw [← hs.len]; exact hc
    have := (ht.ver c hc').2
    simp only [newestV, List.getElem?_map, List.getElem?_eq_getElem hc', Option.map_some, Option.getD_some] at this ⊢
    exact this⟩
  rw [hs.len, hn] at h
  exact h
theorem BInv.next {f : Fl} {bu : Int} {xs : List Int} {O : List (List Int)} {i n : Nat} (h : BInv f bu xs O i) (hi : i < O.length) (hn : f.times.length = n) (hen : ∀ t ∈ enum f (O[i]?.getD []) (newestV f) n [], StOk f t ∧ worksB f t = true) : BInv f bu xs (foldO f bu (O[i]?.getD []) O (enum f (O[i]?.getD []) (newestV f) n [])) (i + 1) := by
  obtain ⟨hs, hw, hr⟩ := h.b.at hi
  obtain ⟨E, hE⟩ := foldO_pre (f := f) (bu := bu) (s := O[i]?.getD []) (enum f (O[i]?.getD []) (newestV f) n []) O
  refine ⟨h.b.fold _ _ hr hen, fun j hj t ht hwt hst => ?_⟩
  have hj' : j < O.length := by omega
  have hget : (foldO f bu (O[i]?.getD []) O (enum f (O[i]?.getD []) (newestV f) n []))[j]?.getD [] = O[j]?.getD [] := by rw [hE, List.getElem?_append_left hj']
  rw [hget] at hst
  by_cases e : j = i
  · subst e
    exact foldO_has _ _ (newest_has hs ht hwt (stepsB_true hst).1 hn) hst
  · rw [hE]
    exact List.mem_append_left _ (h.cl j (by omega) t ht hwt hst)
theorem BInv.plan {f : Fl} {bu : Int} {xs : List Int} {O : List (List Int)} (h : BInv f bu xs O O.length) : ∀ (L : List (List Int)) (p : List Int), p ∈ O → okPlan f bu p L → (∀ x ∈ L, StOk f x) → lastOf p L ∈ O := by
  intro L
  induction L with
  | nil => exact fun p hp _ _ => hp
  | cons s L ih =>
    intro p hp ⟨h1, h2, h3⟩ hL
    refine ih s ?_ h3 (fun x hx => hL x (by simp [hx]))
    obtain ⟨j, hj, e⟩ := List.mem_iff_getElem.1 hp
    exact h.cl j hj s (hL s (by simp)) h1 (by rw [List.getElem?_eq_getElem hj]; simpa [e] using h2)
theorem BInv.mem {f : Fl} {bu : Int} {xs : List Int} {O : List (List Int)} (h : BInv f bu xs O O.length) (hok : FlOk f) (hs : StOk f xs) (t : List Int) : t ∈ O ↔ t ∈ reachV f xs bu := by
  rw [reachV_mem hok hs]
  constructor
  · exact fun ht => h.b.ok t ht
  · rintro ⟨_, _, L, h1, h2, h3⟩
    rw [← h3]
    exact h.plan L xs h.b.h0 h1 h2
theorem BInv.sorted {f : Fl} {bu : Int} {xs : List Int} {O O' : List (List Int)} (h : BInv f bu xs O O.length) (hok : FlOk f) (hs : StOk f xs) (hp : O'.Perm O) (ho : ∀ i j, i < j → j < O'.length → 0 ≤ cmpL (O'[j]?.getD []) (O'[i]?.getD [])) : O' = reachV f xs bu := by
  refine asc_ext ?_ (reachV_asc f xs bu) (fun x => (hp.mem_iff).trans (h.mem hok hs x))
  unfold Asc
  rw [List.pairwise_iff_getElem]
  intro i j hi hj hij
  have h1 := ho i j hij hj
  rw [List.getElem?_eq_getElem hi, List.getElem?_eq_getElem hj] at h1
  simp only [Option.getD_some] at h1
  have hn : O'.Nodup := hp.nodup_iff.2 h.b.nd
  have hne : cmpL O'[j] O'[i] ≠ 0 := fun e => by
    have e2 := cmpL_eq e
    unfold List.Nodup at hn
    rw [List.pairwise_iff_getElem] at hn
    exact hn i j hi hj hij e2.symm
  rcases cmpL_vals O'[j] O'[i] with k | k | k <;> omega
end
end Go.Proofs.Ytlilojpnhmfnaaa
