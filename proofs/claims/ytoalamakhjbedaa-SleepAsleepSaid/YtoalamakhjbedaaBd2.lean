/- Several texts of this claim in one file. (1) A walk by lemmas. Nothing of the program is proved here. (2) A walk by lemmas, within rounds and with marks; blocks of a call's own. Nothing of the program is proved here. (3) Bits of whole numbers; a slice of structures of numbers. Nothing of the program is proved here. (4) A range over a function whose variable lies in memory. Nothing of the program is proved here. -/
import Derived.Test.YtoalamakhjbedaaBd1
import Derived.WalkKit
import Derived.KernelRfl
import Derived.WalkSpells
import Derived.Deep.LoopGhost
import Derived.RangeFuncLeaves
namespace Go.Proofs.Ytoalamakhjbedaa
section
set_option linter.unusedVariables false
section
set_option linter.unusedVariables false
open Go.RowKit

/-- what is known of a frame: its size, and some slots -/
structure Fr (a : Act) (n : Nat) (L : List (Nat × Value)) (D : List Deferred := []) : Prop where
  sz : a.tmps.size = n
  df : a.defers = D
  get : ∀ s v, (s, v) ∈ L → a.tmps[s]? = some v

def lookS (L : List (Nat × Value)) (s : Nat) : Option Value :=
  match L with
  | [] => none
  | (t, v) :: r => if t = s then some v else lookS r s
theorem lookS_mem {L : List (Nat × Value)} {s : Nat} {v : Value} (h : lookS L s = some v) : (s, v) ∈ L := by
  induction L with
  | nil => simp [lookS] at h
  | cons p r ih =>
    obtain ⟨t, x⟩ := p
    simp only [lookS] at h
    split at h
    · subst_vars; simp at h; subst h; simp
    · exact List.mem_cons_of_mem _ (ih h)
theorem Fr.look {a : Act} {n : Nat} {L : List (Nat × Value)} {D : List Deferred} (h : Fr a n L D) {s : Nat} {v : Value} (hl : lookS L s = some v) : a.tmps[s]? = some v := h.get s v (lookS_mem hl)
theorem eval_of {a : Act} {s : Nat} {v : Value} (h : a.tmps[s]? = some v) : a.eval (.tmp s) = v := by
  show a.tmps.getD s undef = v
  simp [h]
theorem Fr.ev {a : Act} {n : Nat} {L : List (Nat × Value)} {D : List Deferred} (h : Fr a n L D) (s : Nat) (v : Value) (hl : lookS L s = some v := by kernel_rfl) : a.eval (.tmp s) = v := eval_of (h.look hl)

/-- which operation writes a slot -/
def writer (s : Nat) : List Oper → Nat → Option Nat
  | [], _ => none
  | o :: r, k => if o.dst = some s then some k else writer s r (k + 1)
theorem writer_some {s : Nat} : ∀ {l : List Oper} {k j : Nat}, writer s l k = some j → k ≤ j ∧ ∃ o, l[j - k]? = some o ∧ o.dst = some s := by
  intro l
  induction l with
  | nil => intro k j h; simp [writer] at h
  | cons o r ih =>
    intro k j h
    simp only [writer] at h
    split at h
    · simp at h; subst h; exact ⟨Nat.le_refl _, o, by simp, by assumption⟩
    · obtain ⟨h1, o', h2, h3⟩ := ih h
      refine ⟨by omega, o', ?_, h3⟩
      rw [show j - k = (j - (k + 1)) + 1 by omega]; simpa using h2
theorem writer_none {s : Nat} : ∀ {l : List Oper} {k : Nat}, writer s l k = none → s ∉ dstsOf l := by
  intro l
  induction l with
  | nil => intro k _; simp [dstsOf]
  | cons o r ih =>
    intro k h
    simp only [writer] at h
    split at h
    · cases h
    · rename_i hne
      have := ih h
      cases ho : o.dst with
      | none => simpa [dstsOf, List.filterMap_cons, ho] using this
      | some d =>
        have hd : d ≠ s := fun e => hne (by rw [ho, e])
        simp only [dstsOf, List.filterMap_cons, ho, List.mem_cons, not_or]
        exact ⟨Ne.symm hd, this⟩
theorem fillL_other (u : Nat → Value) : ∀ (l : List Oper) (k : Nat) (t : Array Value) (s : Nat), s ∉ dstsOf l → (fillL u l k t)[s]? = t[s]? := by
  intro l
  induction l with
  | nil => intro k t s _; rfl
  | cons o r ih =>
    intro k t s hs
    simp only [fillL]
    cases ho : o.dst with
    | none =>
      have hs' : s ∉ dstsOf r := by simpa [dstsOf, List.filterMap_cons, ho] using hs
      exact ih (k + 1) t s hs'
    | some d =>
      have hs' : s ≠ d ∧ s ∉ dstsOf r := by simpa [dstsOf, List.filterMap_cons, ho] using hs
      rw [ih (k + 1) _ s hs'.2, Array.getElem?_setIfInBounds_ne (Ne.symm hs'.1)]

def ancAt (l : List Oper) (i : Nat) : List Nat := match l[i]? with | some o => anc l l.length (fore o) | none => []
/-- what a slot holds when operation i comes up -/
def slotAt (l : List Oper) (vs : List (Option Value)) (L : List (Nat × Value)) (i s : Nat) : Option Value :=
  match writer s l 0 with
  | some j => if (ancAt l i).contains j then (vs[j]?).join else if j = i ∨ (ancAt l j).contains i then lookS L s else none
  | none => lookS L s
/-- what a slot holds behind the region -/
def lastAt (l : List Oper) (vs : List (Option Value)) (L : List (Nat × Value)) (s : Nat) : Option Value :=
  match writer s l 0 with
  | some j => (vs[j]?).join
  | none => lookS L s

/-- the values of the operations: those that have run, and what the slots of the others hold -/
def Kv (l : List Oper) (vs : List (Option Value)) (t : Array Value) (done : Nat → Bool) (u : Nat → Value) : Prop :=
  ∀ j, (done j = true → ∀ x, vs[j]? = some (some x) → u j = x) ∧ (done j = false → ∀ o d v, l[j]? = some o → o.dst = some d → t[d]? = some v → u j = v)

/-- the state in which operation i comes up -/
structure Ste (l : List Oper) (vs : List (Option Value)) (L : List (Nat × Value)) (i : Nat) (A : Act) (done : Nat → Bool) (u : Nat → Value) : Prop where
  ev : ∀ (s : Nat) (v : Value) (_ : slotAt l vs L i s = some v := by kernel_rfl), A.eval (.tmp s) = v
  nd : done i = false
  an : ∀ j, (ancAt l i).contains j = true → done j = true
  no : ∀ j, (ancAt l j).contains i = true → done j = false
  own : ∀ j d, ((l[j]?).bind fun o : Oper => o.dst) = some d → A.eval (.tmp d) = u j
  yl : ∀ j d b, (ancAt l i).contains j = true → ((l[j]?).bind fun o : Oper => o.dst) = some d → vs[j]? = some (some (.bool b)) → yielded l.toArray A.tmps j = some b

def StepX (P : Program) (l : List Oper) (vs : List (Option Value)) (L : List (Nat × Value)) (Q : Exit → Act → World → Prop) (R : (Nat → Bool) → (Nat → Value) → World → Prop) (i : Nat) (o : Oper) : Prop :=
  ∀ (A : Act) (done : Nat → Bool) (u : Nat → Value) (W : World), Ste l vs L i A done u → R done u W →
    if Region.wanted o (yielded l.toArray A.tmps) then ∀ K : Act → World → Prop, (∀ v W', (∀ x, vs[i]? = some (some x) → v = x) → R (upd done i) (fun j => if j = i then v else u j) W' → K (A.put o.dst v) W') → o.wp P A W K Q
    else (vs[i]? = some none ∧ R (upd done i) (fun j => if j = i then undef else u j) W)

/-- closed facts about a region -/
structure RegOk (l : List Oper) (vs : List (Option Value)) (n : Nat) : Prop where
  dag : (l.zipIdx.all fun (o, i) => (fore o).all (· < i)) = true
  nod : (dstsOf l).Nodup
  siz : ((dstsOf l).all (· < n)) = true
  len : vs.length = l.length
  ndf : (l.all fun o => match o.op with | .defer _ => false | _ => true) = true

theorem Kv.put {l : List Oper} {vs : List (Option Value)} {t : Array Value} {done : Nat → Bool} {u : Nat → Value} (h : Kv l vs t done u) {i : Nat} {v : Value} (hv : ∀ x, vs[i]? = some (some x) → v = x) : Kv l vs t (upd done i) (fun j => if j = i then v else u j) := by
  intro j
  by_cases e : j = i
  · subst e
    simp only [upd_self, if_true]
    exact ⟨fun _ x hx => hv x hx, fun h => by cases h⟩
  · simp only [upd_ne e, if_neg e]; exact h j

theorem ste_of {l : List Oper} {vs : List (Option Value)} {n : Nat} {L : List (Nat × Value)} {D : List Deferred} {a : Act} (F : Fr a n L D) (ok : RegOk l vs n) {i : Nat} {o : Oper} (ho : l[i]? = some o) {done : Nat → Bool} {u : Nat → Value} (hd : done i = false)
    (hanc : ∀ j ∈ anc l l.length (fore o), done j = true) (hclo : ∀ j oj, l[j]? = some oj → done j = true → ∀ k ∈ anc l l.length (fore oj), done k = true) (hk : Kv l vs a.tmps done u) :
    Ste l vs L i { a with tmps := fillL u l 0 a.tmps } done u := by
  have han : ∀ j, (ancAt l i).contains j = true → done j = true := fun j hj => by
    simp only [ancAt, ho] at hj
    exact hanc j (by simpa using hj)
  have hno : ∀ j, (ancAt l j).contains i = true → done j = false := fun j hj => by
    cases hoj : l[j]? with
    | none => simp [ancAt, hoj] at hj
    | some oj =>
      simp only [ancAt, hoj] at hj
      cases hdj : done j with
      | false => rfl
      | true => rw [hclo j oj hoj hdj i (by simpa using hj)] at hd; cases hd
  have hsz : ∀ (j : Nat) (o : Oper) (d : Nat), l[j]? = some o → o.dst = some d → d < a.tmps.size := fun j o d h1 h2 => by
    have := ok.siz
    rw [List.all_eq_true] at this
    rw [F.sz]
    have hm : d ∈ dstsOf l := by
      unfold dstsOf
      rw [List.mem_filterMap]
      exact ⟨o, List.mem_of_getElem? h1, h2⟩
    simpa using this d hm
  have hown : ∀ (j : Nat) (o : Oper) (d : Nat), l[j]? = some o → o.dst = some d → (fillL u l 0 a.tmps)[d]? = some (u j) := fun j o d h1 h2 => by
    have := fillL_get u l 0 j a.tmps o d ok.nod h1 h2 (hsz j o d h1 h2)
    rw [Nat.zero_add] at this; exact this
  refine ⟨fun s v hs => ?_, hd, han, hno, fun j d hj => ?_, fun j d b hj hdj0 hb => ?_⟩
  · refine eval_of ?_
    show (fillL u l 0 a.tmps)[s]? = some v
    unfold slotAt at hs
    cases hw : writer s l 0 with
    | none =>
      rw [hw] at hs
      rw [fillL_other u l 0 a.tmps s (writer_none hw)]
      exact F.look hs
    | some j =>
      rw [hw] at hs
      obtain ⟨_, oj, hoj, hdj⟩ := writer_some hw
      rw [Nat.sub_zero] at hoj
      rw [hown j oj s hoj hdj]
      simp only at hs
      split at hs
      · rename_i hc
        have hvj : vs[j]? = some (some v) := by
          cases hx : vs[j]? with
          | none => rw [hx] at hs; simp at hs
          | some x => rw [hx] at hs; simp at hs; rw [hs]
        rw [(hk j).1 (han j hc) v hvj]
      · split at hs
        · rename_i hc
          have hdn : done j = false := by
            rcases hc with rfl | hc
            · exact hd
            · exact hno j hc
          rw [(hk j).2 hdn oj s v hoj hdj (F.look hs)]
        · cases hs
  · cases hoj : l[j]? with
    | none => rw [hoj] at hj; simp at hj
    | some oj =>
      rw [hoj] at hj
      exact eval_of (hown j oj d hoj (by simpa using hj))
  · cases hoj : l[j]? with
    | none => rw [hoj] at hdj0; simp at hdj0
    | some oj =>
      rw [hoj] at hdj0
      have hdj : oj.dst = some d := by simpa using hdj0
      have huj := (hk j).1 (han j hj) _ hb
      simp [yielded, hoj, hdj, hown j oj d hoj hdj, huj]

/-- the operations one after the other -/
def wpL (P : Program) (ops : Array Oper) (Q : Exit → Act → World → Prop) : List Oper → Act → World → Prop
  | [], a, w => Q .normal a w
  | o :: rest, a, w => if Region.wanted o (yielded ops a.tmps) then o.wp P a w (wpL P ops Q rest) Q else wpL P ops Q rest (a.put o.dst undef) w
theorem wpL_step {P : Program} {ops : Array Oper} {Q : Exit → Act → World → Prop} {o : Oper} {rest : List Oper} {a : Act} {w : World}
    (h : ∀ K : Act → World → Prop, (∀ a w, wpL P ops Q rest a w → K a w) → if Region.wanted o (yielded ops a.tmps) then o.wp P a w K Q else K (a.put o.dst undef) w) : wpL P ops Q (o :: rest) a w := by
  have := h _ (fun _ _ h => h)
  unfold wpL
  exact this
theorem wpL_list {P : Program} {ops : Array Oper} {Q : Exit → Act → World → Prop} : ∀ (l : List Oper) (a : Act) (w : World), wpL P ops Q l a w → wpList P ops Q l a w := by
  intro l
  induction l with
  | nil => intro a w h; exact h
  | cons o r ih =>
    intro a w h
    refine wpList_step fun K hK => ?_
    unfold wpL at h
    split
    · rename_i hw; rw [if_pos hw] at h; exact Oper.wp_mono (fun a w h => hK a w (ih a w h)) h
    · rename_i hw; rw [if_neg hw] at h; exact hK _ _ (ih _ _ h)
theorem wpL_in {P : Program} {ops : Array Oper} {Q : Exit → Act → World → Prop} {ro : Option Nat} : ∀ (l : List Oper) (a : Act) (w : World), (l.all fun o => match o.op with | .defer _ => false | _ => true) = true → wpL P ops Q l a w → wpListIn { Fence.wide with round := ro } 0 P ops Q l a w := by
  intro l
  induction l with
  | nil => intro a w _ h; exact h
  | cons o r ih =>
    intro a w hd h
    simp only [List.all_cons, Bool.and_eq_true] at hd
    unfold wpL at h
    unfold wpListIn
    split
    · rename_i hw
      rw [if_pos hw] at h
      exact wpIn_of_wp (fun c hc => by have := hd.1; rw [hc] at this; cases this) (Oper.wp_mono (fun a w h => ih a w hd.2 h) h)
    · rename_i hw; rw [if_neg hw] at h; exact ⟨fun _ _ => trivial, ih _ _ hd.2 h⟩
theorem wpIn_region_L {P : Program} {id : Nat} {l : List Oper} {Q : Exit → Act → World → Prop} {a : Act} {w : World} {ro : Option Nat} (hd : (l.all fun o => match o.op with | .defer _ => false | _ => true) = true)
    (h : wpL P l.toArray Q l a w) : (Code.region id l.toArray false).wpIn { Fence.wide with round := ro } 0 P Q a w := wpIn_region_lit (wpL_in l a w hd h)

/-- **A REGION, DRAWN OR NOT**: each operation is walked once. vs: the values that are known; R: what holds of the world besides. -/
theorem region_xi {ro : Option Nat} {P : Program} {id : Nat} {l : List Oper} {d : Bool} {Q : Exit → Act → World → Prop} {a : Act} {w : World} {n : Nat} {L : List (Nat × Value)} {D : List Deferred} (F : Fr a n L D) (vs : List (Option Value)) (R : (Nat → Bool) → (Nat → Value) → World → Prop)
    (hm : P.follows .mixedOrders = true) (ok : RegOk l vs n) (h0 : ∀ u, R (fun _ => false) u w ∧ R (fun _ => false) u w.drew)
    (hstep : AllIdx (StepX P l vs L Q R) l 0)
    (hfin : ∀ (A : Act) (u : Nat → Value) (W : World), A.tmps.size = n → A.defers = D → (∀ s v, lastAt l vs L s = some v → A.tmps[s]? = some v) → (∀ j d, ((l[j]?).bind fun o : Oper => o.dst) = some d → A.tmps[d]? = some (u j)) → R (fun j => decide (j < l.length)) u W → Q .normal A W) :
    (Code.region id l.toArray d).wpIn { Fence.wide with round := ro } 0 P Q a w := by
  have hfin' : ∀ (done : Nat → Bool) (u : Nat → Value) (W : World), (∀ i, done i = decide (i < l.length)) → Kv l vs a.tmps done u → R done u W → Q .normal { a with tmps := fillL u l 0 a.tmps } W := by
    intro done u W hd hk hR
    have hde : done = fun j => decide (j < l.length) := funext hd
    subst hde
    have hsz : ∀ (j : Nat) (o : Oper) (d : Nat), l[j]? = some o → o.dst = some d → d < a.tmps.size := fun j o d h1 h2 => by
      have := ok.siz
      rw [List.all_eq_true] at this
      rw [F.sz]
      have hmm : d ∈ dstsOf l := by
        unfold dstsOf
        rw [List.mem_filterMap]
        exact ⟨o, List.mem_of_getElem? h1, h2⟩
      simpa using this d hmm
    have hown : ∀ (j : Nat) (o : Oper) (d : Nat), l[j]? = some o → o.dst = some d → (fillL u l 0 a.tmps)[d]? = some (u j) := fun j o d h1 h2 => by
      have := fillL_get u l 0 j a.tmps o d ok.nod h1 h2 (hsz j o d h1 h2)
      rw [Nat.zero_add] at this; exact this
    refine hfin _ u W (by show (fillL u l 0 a.tmps).size = n; rw [fillL_size]; exact F.sz) F.df (fun s v hs => ?_) (fun j d hj => ?_) hR
    · show (fillL u l 0 a.tmps)[s]? = some v
      unfold lastAt at hs
      cases hw : writer s l 0 with
      | none =>
        rw [hw] at hs
        rw [fillL_other u l 0 a.tmps s (writer_none hw)]
        exact F.look hs
      | some j =>
        rw [hw] at hs
        obtain ⟨_, oj, hoj, hdj⟩ := writer_some hw
        rw [Nat.sub_zero] at hoj
        rw [hown j oj s hoj hdj]
        simp only at hs
        have hvj : vs[j]? = some (some v) := by
          cases hx : vs[j]? with
          | none => rw [hx] at hs; simp at hs
          | some x => rw [hx] at hs; simp at hs; rw [hs]
        rw [(hk j).1 (by simpa using (List.getElem?_eq_some_iff.1 hoj).1) v hvj]
    · cases hoj : l[j]? with
      | none => rw [hoj] at hj; simp at hj
      | some oj =>
        rw [hoj] at hj
        exact hown j oj d hoj (by simpa using hj)
  have hk0 : ∀ u, fillL u l 0 a.tmps = a.tmps → Kv l vs a.tmps (fun _ => false) u := fun u hself j => ⟨(fun h => by cases h), fun _ o d v ho hd hv => fillL_was hself ok.nod j ho hd hv⟩
  cases d with
  | true =>
    refine region_inv2 (F := { Fence.wide with round := ro }) hm ok.dag ok.nod (fun _ => trivial) (fun done u W => (∀ i, l.length ≤ i → done i = false) ∧ Kv l vs a.tmps done u ∧ R done u W) (fun u hself => ⟨fun _ _ => rfl, hk0 u hself, (h0 u).2⟩) ?_ (fun u W ⟨done, hd, hb, hk, hR⟩ => hfin' done u W (fun i => by
      by_cases h : i < l.length
      · rw [hd i h]; simp [h]
      · rw [hb i (by omega)]; simp [h]) hk hR)
    have hall : ∀ (l' : List Oper) (k : Nat), (∀ i o, l'[i]? = some o → l[k + i]? = some o) → AllIdx (StepX P l vs L Q R) l' k → AllIdx (fun i o => ∀ (u : Nat → Value) (done : Nat → Bool) (W : World), done i = false → (∀ j ∈ anc l l.length (fore o), done j = true) → (∀ j oj, l[j]? = some oj → done j = true → ∀ k ∈ anc l l.length (fore oj), done k = true) → ((∀ i, l.length ≤ i → done i = false) ∧ Kv l vs a.tmps done u ∧ R done u W) →
        if Region.wanted o (yielded l.toArray (fillL u l 0 a.tmps)) then o.wpIn { Fence.wide with round := ro } 0 P { a with tmps := fillL u l 0 a.tmps } W (fun a' W' => ∃ v, a' = ({ a with tmps := fillL u l 0 a.tmps } : Act).put o.dst v ∧ ((∀ i', l.length ≤ i' → upd done i i' = false) ∧ Kv l vs a.tmps (upd done i) (fun j => if j = i then v else u j) ∧ R (upd done i) (fun j => if j = i then v else u j) W')) Q
        else ((∀ i', l.length ≤ i' → upd done i i' = false) ∧ Kv l vs a.tmps (upd done i) (fun j => if j = i then undef else u j) ∧ R (upd done i) (fun j => if j = i then undef else u j) W)) l' k := by
      intro l'
      induction l' with
      | nil => intro k _ _; trivial
      | cons o r ih =>
        intro k hl hs
        refine ⟨fun u done W hd hanc hclo ⟨hb, hk, hR⟩ => ?_, ih (k + 1) (fun i o h => by have := hl (i + 1) o (by simpa using h); rw [show k + 1 + i = k + (i + 1) by omega]; exact this) hs.2⟩
        have ho : l[k]? = some o := by simpa using hl 0 o (by simp)
        have hlt : k < l.length := (List.getElem?_eq_some_iff.1 ho).1
        have hb' : ∀ i', l.length ≤ i' → upd done k i' = false := fun i' hi' => by rw [upd_ne (by omega)]; exact hb i' hi'
        have hst := hs.1 _ done u W (ste_of F ok ho hd hanc hclo hk) hR
        by_cases hw : Region.wanted o (yielded l.toArray (fillL u l 0 a.tmps)) = true
        · rw [if_pos hw] at hst ⊢
          refine wpIn_of_wp (ro := ro) (fun c hc => ?_) (hst _ (fun v W' hv hR' => ⟨v, rfl, hb', hk.put hv, hR'⟩))
          have := ok.ndf
          rw [List.all_eq_true] at this
          have := this o (List.mem_of_getElem? ho)
          rw [hc] at this; cases this
        · rw [if_neg hw] at hst ⊢
          exact ⟨hb', hk.put (fun x hx => by rw [hst.1] at hx; cases hx), hst.2⟩
    exact hall l 0 (fun i o h => by simpa using h) hstep
  | false =>
    refine wpIn_region_L ok.ndf ?_
    obtain ⟨u0, hself⟩ : ∃ u0 : Nat → Value, fillL u0 l 0 a.tmps = a.tmps :=
      ⟨fun i => match l[i]? with | some o => (match o.dst with | some d => a.tmps.getD d undef | none => undef) | none => undef, by
        apply fillL_self
        intro i o d hi hd _
        simp only [Nat.zero_add, hi, hd]⟩
    have hfore : ∀ i o, l[i]? = some o → ∀ k ∈ fore o, k < i := by
      intro i o hi k hk
      have hdag := ok.dag
      rw [List.all_eq_true] at hdag
      have hmem : (o, i) ∈ l.zipIdx := by rw [List.mem_zipIdx_iff_getElem?]; exact hi
      have := hdag (o, i) hmem
      simp only [List.all_eq_true, decide_eq_true_eq] at this
      exact this k hk
    have main : ∀ (r : List Oper) (k : Nat) (u : Nat → Value) (W : World), (∀ i, r[i]? = l[k + i]?) → k + r.length = l.length → AllIdx (StepX P l vs L Q R) r k → Kv l vs a.tmps (fun j => decide (j < k)) u → R (fun j => decide (j < k)) u W →
        wpL P l.toArray Q r { a with tmps := fillL u l 0 a.tmps } W := by
      intro r
      induction r with
      | nil =>
        intro k u W _ hlen _ hk hR
        have hkl : k = l.length := by simpa using hlen
        subst hkl
        exact hfin' _ u W (fun i => rfl) hk hR
      | cons o r ih =>
        intro k u W hl hlen hs hk hR
        have ho : l[k]? = some o := by have := hl 0; simpa using this.symm
        have hup : (fun j => decide (j < k + 1)) = upd (fun j => decide (j < k)) k := by
          funext j
          unfold upd
          by_cases e : j = k
          · subst e; simp
          · rw [if_neg e]; congr 1; apply propext; constructor <;> intro h <;> omega
        have hst := hs.1 _ _ u W (ste_of F ok ho (by simp) (fun j hj => by have := hlt_anc l hfore k o ho j hj; simpa using this) (fun j oj hoj hj k' hk' => by
          have h1 := hlt_anc l hfore j oj hoj k' hk'
          simp at hj ⊢; omega) hk) hR
        have hnext : ∀ v W', (∀ x, vs[k]? = some (some x) → v = x) → R (upd (fun j => decide (j < k)) k) (fun j => if j = k then v else u j) W' → wpL P l.toArray Q r (({ a with tmps := fillL u l 0 a.tmps } : Act).put o.dst v) W' := by
          intro v W' hv hR'
          have hput : (({ a with tmps := fillL u l 0 a.tmps } : Act).put o.dst v) = { a with tmps := fillL (fun j => if j = k then v else u j) l 0 a.tmps } := by
            cases hd : o.dst with
            | none =>
              simp only [Act.put]
              rw [fillL_none u v l 0 k a.tmps o ho hd, Nat.zero_add]
            | some d =>
              simp only [Act.put]
              rw [fillL_put u v l 0 k a.tmps o d ok.nod ho hd, Nat.zero_add]
          rw [hput]
          refine ih (k + 1) _ W' (fun i => by have := hl (i + 1); simp at this; rw [this]; congr 1; omega) (by simp at hlen; omega) hs.2 ?_ ?_
          · rw [hup]; exact hk.put hv
          · rw [hup]; exact hR'
        refine wpL_step fun K hK => ?_
        by_cases hw : Region.wanted o (yielded l.toArray (fillL u l 0 a.tmps)) = true
        · rw [if_pos hw] at hst ⊢
          exact hst K (fun v W' hv hR' => hK _ _ (hnext v W' hv hR'))
        · rw [if_neg hw] at hst ⊢
          exact hK _ _ (hnext undef W (fun x hx => by rw [hst.1] at hx; cases hx) hst.2)
    have := main l 0 u0 w (fun i => by simp) (by simp) hstep (by
      have := hk0 u0 hself
      simpa using this) (by simpa using (h0 u0).1)
    rw [hself] at this
    exact this
theorem region_x {P : Program} {id : Nat} {l : List Oper} {d : Bool} {Q : Exit → Act → World → Prop} {a : Act} {w : World} {n : Nat} {L : List (Nat × Value)} {D : List Deferred} (F : Fr a n L D) (vs : List (Option Value)) (R : (Nat → Bool) → (Nat → Value) → World → Prop)
    (hm : P.follows .mixedOrders = true) (ok : RegOk l vs n) (h0 : ∀ u, R (fun _ => false) u w ∧ R (fun _ => false) u w.drew)
    (hstep : AllIdx (StepX P l vs L Q R) l 0)
    (hfin : ∀ (A : Act) (u : Nat → Value) (W : World), A.tmps.size = n → A.defers = D → (∀ s v, lastAt l vs L s = some v → A.tmps[s]? = some v) → (∀ j d, ((l[j]?).bind fun o : Oper => o.dst) = some d → A.tmps[d]? = some (u j)) → R (fun j => decide (j < l.length)) u W → Q .normal A W) :
    (Code.region id l.toArray d).wp P Q a w := (wpIn_wide (n := 0)).1 (region_xi (ro := none) F vs R hm ok h0 hstep hfin)
end
section
open Go.RowKit
namespace X
variable {P : Program} {o : Oper} {ρ : Operand → Value} {W W' : World}

theorem w0 {y : Nat → Option Bool} (hg : o.guard = none) : Region.wanted o y = true := by simp [Region.wanted, hg]
theorem w1 {y : Nat → Option Bool} {j : Nat} {b : Bool} (hg : o.guard = some (j, b)) (hy : y j = some b) : Region.wanted o y = true := by simp [Region.wanted, hg, hy]
theorem w2 {y : Nat → Option Bool} {j : Nat} {b b' : Bool} (hg : o.guard = some (j, b)) (hy : y j = some b') (hne : (b' == b) = false) : Region.wanted o y = false := by simp [Region.wanted, hg, hy]; simpa using hne

section
variable {l : List Oper} {vs : List (Option Value)} {Q : Exit → Act → World → Prop} {R : (Nat → Bool) → (Nat → Value) → World → Prop} {i : Nat} {A : Act} {done : Nat → Bool} {u : Nat → Value} {y : Nat → Option Bool}
/-- an operation that gives a value -/
theorem val {v : Value} (hw : Region.wanted o y = true) (hv : vs[i]? = some (some v)) (hrun : (execOp A.eval o).run P W = .ok (.value v) W') (hR : R (upd done i) (fun j => if j = i then v else u j) W') :
    if Region.wanted o y then ∀ K : Act → World → Prop, (∀ v W', (∀ x, vs[i]? = some (some x) → v = x) → R (upd done i) (fun j => if j = i then v else u j) W' → K (A.put o.dst v) W') → o.wp P A W K Q
    else (vs[i]? = some none ∧ R (upd done i) (fun j => if j = i then undef else u j) W) := by
  rw [if_pos hw]
  intro K hK
  unfold Oper.wp
  rw [hrun]
  exact hK v W' (fun x hx => by rw [hv] at hx; injection hx with hx; injection hx) hR
/-- an operation whose value is not known ahead -/
theorem valN {v : Value} (hw : Region.wanted o y = true) (hv : vs[i]? = some none) (hrun : (execOp A.eval o).run P W = .ok (.value v) W') (hR : R (upd done i) (fun j => if j = i then v else u j) W') :
    if Region.wanted o y then ∀ K : Act → World → Prop, (∀ v W', (∀ x, vs[i]? = some (some x) → v = x) → R (upd done i) (fun j => if j = i then v else u j) W' → K (A.put o.dst v) W') → o.wp P A W K Q
    else (vs[i]? = some none ∧ R (upd done i) (fun j => if j = i then undef else u j) W) := by
  rw [if_pos hw]
  intro K hK
  unfold Oper.wp
  rw [hrun]
  exact hK v W' (fun x hx => by rw [hv] at hx; cases hx) hR
/-- an operation that gives none -/
theorem unit (hw : Region.wanted o y = true) (hv : vs[i]? = some none) (hrun : (execOp A.eval o).run P W = .ok .skip W') (hR : R (upd done i) (fun j => if j = i then undef else u j) W') :
    if Region.wanted o y then ∀ K : Act → World → Prop, (∀ v W', (∀ x, vs[i]? = some (some x) → v = x) → R (upd done i) (fun j => if j = i then v else u j) W' → K (A.put o.dst v) W') → o.wp P A W K Q
    else (vs[i]? = some none ∧ R (upd done i) (fun j => if j = i then undef else u j) W) := by
  rw [if_pos hw]
  intro K hK
  unfold Oper.wp
  rw [hrun]
  exact hK undef W' (fun x hx => by rw [hv] at hx; cases hx) hR
/-- an operation that is not wanted -/
theorem skip (hw : Region.wanted o y = false) (hv : vs[i]? = some none) (hR : R (upd done i) (fun j => if j = i then undef else u j) W) :
    if Region.wanted o y then ∀ K : Act → World → Prop, (∀ v W', (∀ x, vs[i]? = some (some x) → v = x) → R (upd done i) (fun j => if j = i then v else u j) W' → K (A.put o.dst v) W') → o.wp P A W K Q
    else (vs[i]? = some none ∧ R (upd done i) (fun j => if j = i then undef else u j) W) := by
  rw [if_neg (by rw [hw]; decide)]
  exact ⟨hv, hR⟩
/-- a call by its contract -/
theorem call {F : FuncId} {args : Array Value} {T : Ending → World → Prop} (hw : Region.wanted o y = true) (hrun : (execOp A.eval o).run P W = .ok (.enter F args) W) (hc : Calls P F args W T)
    (hT : ∀ e W', T e W' → ∃ v, e = .returned v ∧ (∀ x, vs[i]? = some (some x) → v = x) ∧ R (upd done i) (fun j => if j = i then v else u j) W') :
    if Region.wanted o y then ∀ K : Act → World → Prop, (∀ v W', (∀ x, vs[i]? = some (some x) → v = x) → R (upd done i) (fun j => if j = i then v else u j) W' → K (A.put o.dst v) W') → o.wp P A W K Q
    else (vs[i]? = some none ∧ R (upd done i) (fun j => if j = i then undef else u j) W) := by
  rw [if_pos hw]
  intro K hK
  unfold Oper.wp
  rw [hrun]
  refine hc.mono fun e W' h => ?_
  obtain ⟨v, rfl, h1, h2⟩ := hT e W' h
  exact hK v W' h1 h2
/-- a builtin by a law at Oper.wp -/
theorem law (hw : Region.wanted o y = true) (h : ∀ K : Act → World → Prop, (∀ v W', (∀ x, vs[i]? = some (some x) → v = x) → R (upd done i) (fun j => if j = i then v else u j) W' → K (A.put o.dst v) W') → o.wp P A W K Q) :
    if Region.wanted o y then ∀ K : Act → World → Prop, (∀ v W', (∀ x, vs[i]? = some (some x) → v = x) → R (upd done i) (fun j => if j = i then v else u j) W' → K (A.put o.dst v) W') → o.wp P A W K Q
    else (vs[i]? = some none ∧ R (upd done i) (fun j => if j = i then undef else u j) W) := by
  rw [if_pos hw]; exact h
end

theorem run_v {s : Sem Value} {v : Value} (h : s.run P W = .ok v W') : (do pure (Next.value (← s)) : Sem Next).run P W = .ok (.value v) W' := by simp [h, go_sem]
theorem run_u {s : Sem Unit} (h : s.run P W = .ok () W') : (do s; pure Next.skip : Sem Next).run P W = .ok .skip W' := by simp [h, go_sem]

theorem move {x : Operand} {v : Value} (ho : o.op = .move x) (hx : ρ x = v) : (execOp ρ o).run P W = .ok (.value v) W := by
  unfold execOp; rw [ho]; simp [hx]
theorem assign {x : Operand} {v : Value} (ho : o.op = .assign x) (hx : ρ x = v) : (execOp ρ o).run P W = .ok (.value v) W := by
  unfold execOp; rw [ho]; simp [hx]
theorem pickT {c x y : Operand} {v : Value} (ho : o.op = .pick c x y) (hc : ρ c = .bool true) (hx : ρ x = v) : (execOp ρ o).run P W = .ok (.value v) W := by
  unfold execOp; rw [ho]; simp [hc, hx, asBool, go_sem]
theorem pickF {c x y : Operand} {v : Value} (ho : o.op = .pick c x y) (hc : ρ c = .bool false) (hy : ρ y = v) : (execOp ρ o).run P W = .ok (.value v) W := by
  unfold execOp; rw [ho]; simp [hc, hy, asBool, go_sem]
theorem load {t : TypeId} {x : Operand} {p : Value} {v : Value} (ho : o.op = .load t x) (hx : ρ x = p) (hr : (Instr.loadAt t p).run P W = .ok v W) : (execOp ρ o).run P W = .ok (.value v) W := by
  unfold execOp; rw [ho]; simp only [hx]; exact run_v hr
theorem store {t : TypeId} {x y : Operand} {p v : Value} (ho : o.op = .store t x y) (hx : ρ x = p) (hy : ρ y = v) (hr : (Instr.storeAt t p v).run P W = .ok () W') : (execOp ρ o).run P W = .ok .skip W' := by
  unfold execOp; rw [ho]; simp only [hx, hy]; exact run_u hr
theorem extract {x : Operand} {k : Nat} {vs : Array Value} {v : Value} (ho : o.op = .extract x k) (hx : ρ x = .tuple vs) (hv : vs[k]? = some v) : (execOp ρ o).run P W = .ok (.value v) W := by
  unfold execOp; rw [ho]; simp [hx, Instr.extract, hv, go_sem]
theorem notB {b : Bool} {t : TypeId} {x : Operand} (ho : o.op = .unOp .not t x) (hx : ρ x = .bool b) {c : Bool} (hc : (!b) = c) : (execOp ρ o).run P W = .ok (.value (.bool c)) W := by
  unfold execOp; rw [ho]; simp [hx, Op.unary, hc, go_sem]
theorem binop {op : BinOp} {t t' : TypeId} {x y : Operand} {p q v : Value} (ho : o.op = .binOp op t x y t') (hx : ρ x = p) (hy : ρ y = q) (hr : (do eqGuard op t x y p q; binOp op t p q : Sem Value).run P W = .ok v W) : (execOp ρ o).run P W = .ok (.value v) W := by
  unfold execOp; rw [ho]; simp only [hx, hy]; exact run_v hr
theorem field {t : TypeId} {x : Operand} {k : Nat} {p v : Value} (ho : o.op = .fieldAddr t x k) (hx : ρ x = p) (hr : (Instr.fieldAt t p k).run P W = .ok v W) : (execOp ρ o).run P W = .ok (.value v) W := by
  unfold execOp; rw [ho]; simp only [hx]; exact run_v hr
theorem index {t : TypeId} {x y : Operand} {p q v : Value} (ho : o.op = .indexAddr t x y) (hx : ρ x = p) (hy : ρ y = q) (hr : (Instr.indexAt t p q).run P W = .ok v W) : (execOp ρ o).run P W = .ok (.value v) W := by
  unfold execOp; rw [ho]; simp only [hx, hy]; exact run_v hr
theorem box {t : TypeId} {x : Operand} {p v : Value} (ho : o.op = .box t x) (hx : ρ x = p) (hr : (Instr.box t p).run P W = .ok v W') : (execOp ρ o).run P W = .ok (.value v) W' := by
  unfold execOp; rw [ho]; simp only [hx]; exact run_v hr
theorem len1 {x : Operand} {tx e : TypeId} {a : Option Addr} {n c : Nat} (hu : P.underlying tx = some (.slice e)) (ho : o.op = .call { callee := .builtin .len, args := #[x], argTypes := #[tx] }) (hx : ρ x = .slice a n c) : (execOp ρ o).run P W = .ok (.value (.int .i64 n)) W := by
  unfold execOp; rw [ho]; simp [hx, resolve, invoke, builtin, Builtin.len_, run_underlying hu, go_sem]
theorem enter {f : Operand} {args : Array Operand} {ats : Array TypeId} {F : FuncId} {cap : Array Value} {vs : List Value} (ho : o.op = .call { callee := .value f, args := args, argTypes := ats }) (hf : ρ f = .func (.func F) #[] cap) (hargs : args.toList.map ρ = vs)
    (he : ∀ W, (callFunc F (vs.toArray ++ cap)).run P W = .ok (.enter F (vs.toArray ++ cap)) W) : (execOp ρ o).run P W = .ok (.enter F (vs.toArray ++ cap)) W := by
  unfold execOp; rw [ho]
  have : (args.map ρ) = vs.toArray := by
    cases args with
    | mk l => subst hargs; simp
  simp [hf, resolve, invoke, this, go_sem, he]

/-- loads -/
theorem ld1 {t : TypeId} {p : Addr} {v : Value} (hA : (isAgg t).run P W = .ok false W) (hc : W.cell? p = some v) : (Instr.loadAt t (.pointer (some p))).run P W = .ok v W := by
  simp [Instr.loadAt, loadVar, Instr.sureAddr, hA, hc, go_sem]
theorem loadCells_run {p : Addr} : ∀ (n k : Nat) (acc : Array Value) (vs : List Value), vs.length = n → (∀ j v, vs[j]? = some v → W.cell? (p.add (k + j)) = some v) → (loadCellsFrom p k n acc).run P W = .ok (acc ++ vs.toArray) W := by
  intro n
  induction n with
  | zero => intro k acc vs hl _; have : vs = [] := List.eq_nil_of_length_eq_zero hl; subst this; simp [loadCellsFrom, go_sem]
  | succ n ih =>
    intro k acc vs hl h
    match vs, hl with
    | v :: r, hl =>
      have h0 := h 0 v rfl
      have h2 := ih (k + 1) (acc.push v) r (by simpa using hl) (fun j x hx => by have := h (j + 1) x (by simpa using hx); rw [show k + 1 + j = k + (j + 1) by omega]; exact this)
      rw [Nat.add_zero] at h0
      rw [show acc ++ (v :: r).toArray = acc.push v ++ r.toArray by simp]
      simp [loadCellsFrom, go_sem, h0, h2]
theorem ldN {t : TypeId} {p : Addr} {vs : List Value} (hA : (isAgg t).run P W = .ok true W) (hS : (sizeOf t).run P W = .ok vs.length W) (hc : ∀ j v, vs[j]? = some v → W.cell? (p.add j) = some v) : (Instr.loadAt t (.pointer (some p))).run P W = .ok (.agg vs.toArray) W := by
  have := loadCells_run (P := P) (W := W) (p := p) vs.length 0 #[] vs rfl (fun j v h => by rw [Nat.zero_add]; exact hc j v h)
  simp [Instr.loadAt, loadVar, Instr.sureAddr, hA, hS, loadCells, this, go_sem]
/-- the address of a field -/
theorem fld {t : TypeId} {p : Addr} {k sz : Nat} {fs : Array Field} {f : Field} (hu : P.underlying t = some (.struct fs)) (hf : fs[k]? = some f) (hS : (sizeOf f.type).run P W = .ok sz W) (h0 : (sz == 0) = false) {q : Addr} (hq : p.add f.offset = q) : (Instr.fieldAt t (.pointer (some p)) k).run P W = .ok (.pointer (some q)) W := by
  subst hq
  have h1 : ¬ sz = 0 := by simpa using h0
  simp [Instr.fieldAt, run_underlying hu, hf, Instr.sureAddr, fieldPlace, hS, h1, go_sem]
/-- the address of an element -/
theorem idx {t e : TypeId} {p : Addr} {n c k sz : Nat} (hu : P.underlying t = some (.slice e)) (hS : (sizeOf e).run P W = .ok sz W) (hk : k < n) {z : Int} (hz : z = (k : Int)) {q : Addr} (hq : p.add (k * sz) = q) : (Instr.indexAt t (.slice (some p) n c) (.int .i64 z)).run P W = .ok (.pointer (some q)) W := by
  subst hz hq
  have h1 : (0 : Int) ≤ k ∧ (k : Int) < n := by omega
  simp [Instr.indexAt, run_underlying hu, hS, asIntOf, h1, go_sem]
  intro h; omega
theorem bx {t : TypeId} {vs : Array Value} : (Instr.box t (.agg vs)).run P W = .ok (.pointer (some ⟨W.heap.size, 0, none⟩)) (W.alloc (.cells vs t)) := by
  simp [Instr.box, newVar, newRow, Value.cells, go_sem]
/-- tests -/
theorem eqlI {t : TypeId} (_hu : P.underlying t = some (.int .i64)) {x y : Operand} {p q : Int} {b : Bool} (hb : (p == q) = b) : (do eqGuard .eql t x y (.int .i64 p) (.int .i64 q); binOp .eql t (.int .i64 p) (.int .i64 q) : Sem Value).run P W = .ok (.bool b) W := by
  subst hb; simp [eqGuard, binOp, go_sem]
theorem neqI {t : TypeId} (_hu : P.underlying t = some (.int .i64)) {x y : Operand} {p q : Int} {b : Bool} (hb : (p != q) = b) : (do eqGuard .neq t x y (.int .i64 p) (.int .i64 q); binOp .neq t (.int .i64 p) (.int .i64 q) : Sem Value).run P W = .ok (.bool b) W := by
  subst hb; simp [eqGuard, binOp, go_sem]
theorem lssI {t : TypeId} (_hu : P.underlying t = some (.int .i64)) {x y : Operand} {p q : Int} {b : Bool} (hb : decide (p < q) = b) : (do eqGuard .lss t x y (.int .i64 p) (.int .i64 q); binOp .lss t (.int .i64 p) (.int .i64 q) : Sem Value).run P W = .ok (.bool b) W := by
  subst hb; simp [eqGuard, binOp, go_sem]
theorem leqI {t : TypeId} (_hu : P.underlying t = some (.int .i64)) {x y : Operand} {p q : Int} {b : Bool} (hb : decide (p ≤ q) = b) : (do eqGuard .leq t x y (.int .i64 p) (.int .i64 q); binOp .leq t (.int .i64 p) (.int .i64 q) : Sem Value).run P W = .ok (.bool b) W := by
  subst hb; simp [eqGuard, binOp, go_sem]
theorem gtrI {t : TypeId} (_hu : P.underlying t = some (.int .i64)) {x y : Operand} {p q : Int} {b : Bool} (hb : decide (q < p) = b) : (do eqGuard .gtr t x y (.int .i64 p) (.int .i64 q); binOp .gtr t (.int .i64 p) (.int .i64 q) : Sem Value).run P W = .ok (.bool b) W := by
  subst hb; simp [eqGuard, binOp, go_sem]
theorem geqI {t : TypeId} (_hu : P.underlying t = some (.int .i64)) {x y : Operand} {p q : Int} {b : Bool} (hb : decide (q ≤ p) = b) : (do eqGuard .geq t x y (.int .i64 p) (.int .i64 q); binOp .geq t (.int .i64 p) (.int .i64 q) : Sem Value).run P W = .ok (.bool b) W := by
  subst hb; simp [eqGuard, binOp, go_sem]
theorem addI {t : TypeId} (_hu : P.underlying t = some (.int .i64)) {x y : Operand} {p q z : Int} (hz : p + q = z) (h0 : -9223372036854775808 ≤ z) (h1 : z ≤ 9223372036854775807) : (do eqGuard .add t x y (.int .i64 p) (.int .i64 q); binOp .add t (.int .i64 p) (.int .i64 q) : Sem Value).run P W = .ok (.int .i64 z) W := by
  subst hz; simp [eqGuard, binOp, go_sem, IntWalk.i64_in _ ⟨h0, h1⟩]
theorem subI {t : TypeId} (_hu : P.underlying t = some (.int .i64)) {x y : Operand} {p q z : Int} (hz : p - q = z) (h0 : -9223372036854775808 ≤ z) (h1 : z ≤ 9223372036854775807) : (do eqGuard .sub t x y (.int .i64 p) (.int .i64 q); binOp .sub t (.int .i64 p) (.int .i64 q) : Sem Value).run P W = .ok (.int .i64 z) W := by
  subst hz; simp [eqGuard, binOp, go_sem, IntWalk.i64_in _ ⟨h0, h1⟩]
theorem c2 {W : World} {p : Addr} {v0 v1 : Value} (h0 : W.cell? (p.add 0) = some v0) (h1 : W.cell? (p.add 1) = some v1) : ∀ j v, [v0, v1][j]? = some v → W.cell? (p.add j) = some v := fun j v h => by
  match j with
  | 0 => simp at h; subst h; exact h0
  | 1 => simp at h; subst h; exact h1
  | j + 2 => simp at h
theorem c4 {W : World} {p : Addr} {v0 v1 v2 v3 : Value} (h0 : W.cell? (p.add 0) = some v0) (h1 : W.cell? (p.add 1) = some v1) (h2 : W.cell? (p.add 2) = some v2) (h3 : W.cell? (p.add 3) = some v3) : ∀ j v, [v0, v1, v2, v3][j]? = some v → W.cell? (p.add j) = some v := fun j v h => by
  match j with
  | 0 => simp at h; subst h; exact h0
  | 1 => simp at h; subst h; exact h1
  | 2 => simp at h; subst h; exact h2
  | 3 => simp at h; subst h; exact h3
  | j + 4 => simp at h
theorem a1 {ρ : Operand → Value} {x : Operand} {v : Value} (h : ρ x = v) : [x].map ρ = [v] := by simp [h]
theorem a2 {ρ : Operand → Value} {x y : Operand} {v z : Value} (h : ρ x = v) (k : ρ y = z) : [x, y].map ρ = [v, z] := by simp [h, k]
theorem a3 {ρ : Operand → Value} {x1 x2 x3 : Operand} {v1 v2 v3 : Value} (h1 : ρ x1 = v1) (h2 : ρ x2 = v2) (h3 : ρ x3 = v3) : [x1, x2, x3].map ρ = [v1, v2, v3] := by simp [h1, h2, h3]
theorem a4 {ρ : Operand → Value} {x1 x2 x3 x4 : Operand} {v1 v2 v3 v4 : Value} (h1 : ρ x1 = v1) (h2 : ρ x2 = v2) (h3 : ρ x3 = v3) (h4 : ρ x4 = v4) : [x1, x2, x3, x4].map ρ = [v1, v2, v3, v4] := by simp [h1, h2, h3, h4]
theorem a5 {ρ : Operand → Value} {x1 x2 x3 x4 x5 : Operand} {v1 v2 v3 v4 v5 : Value} (h1 : ρ x1 = v1) (h2 : ρ x2 = v2) (h3 : ρ x3 = v3) (h4 : ρ x4 = v4) (h5 : ρ x5 = v5) : [x1, x2, x3, x4, x5].map ρ = [v1, v2, v3, v4, v5] := by simp [h1, h2, h3, h4, h5]
end X
end
section
open Go.RowKit
namespace X
variable {P : Program}

/-- what is held of the world in a region that writes nothing old -/
def RG (w : World) : (Nat → Bool) → (Nat → Value) → World → Prop := fun _ _ W => Gr w W
def argL : List Value → Nat → List (Nat × Value)
  | [], _ => []
  | v :: r, k => (k, v) :: argL r (k + 1)
theorem argL_mem : ∀ {l : List Value} {k s : Nat} {v : Value}, (s, v) ∈ argL l k → k ≤ s ∧ l[s - k]? = some v := by
  intro l
  induction l with
  | nil => intro k s v h; simp [argL] at h
  | cons x r ih =>
    intro k s v h
    simp only [argL, List.mem_cons, Prod.mk.injEq] at h
    rcases h with ⟨rfl, rfl⟩ | h
    · simp
    · obtain ⟨h1, h2⟩ := ih h
      refine ⟨by omega, ?_⟩
      rw [show s - k = (s - (k + 1)) + 1 by omega]; simpa using h2
theorem calls {f : FuncId} {fn : Func} {c : Code} {args : Array Value} {w : World} {R : Ending → World → Prop} (N : Nat) (hf : P.funcs[f]? = some fn) (hb : fn.body = some c) (hN : args.size + (fn.ntmps - args.size) = N)
    (h : ∀ A, Fr A N (argL args.toList 0) → c.wp P (bodyPost P fn R) A w) : Calls P f args w R := by
  refine calls_of_wp hf hb (h _ ⟨by simpa using hN, rfl, fun s v hm => ?_⟩)
  obtain ⟨_, h2⟩ := argL_mem hm
  rw [Nat.sub_zero] at h2
  have hlt := (List.getElem?_eq_some_iff.1 h2).1
  show (args ++ Array.replicate (fn.ntmps - args.size) undef)[s]? = some v
  rw [Array.getElem?_append_left (by simpa using hlt)]
  simpa using h2
/-- what is known behind a region -/
theorem fr {A : Act} {n : Nat} {l : List Oper} {vs : List (Option Value)} {L : List (Nat × Value)} {D : List Deferred} (hs : A.tmps.size = n) (hd : A.defers = D) (hl : ∀ s v, lastAt l vs L s = some v → A.tmps[s]? = some v) (M : List (Nat × Value))
    (hM : M.map (fun p => lastAt l vs L p.1) = M.map (fun p => some p.2)) : Fr A n M D := by
  refine ⟨hs, hd, fun s v hm => hl s v ?_⟩
  clear hl
  induction M with
  | nil => simp at hm
  | cons p r ih =>
    simp only [List.map_cons, List.cons.injEq] at hM
    rcases List.mem_cons.1 hm with e | hm
    · subst e; exact hM.1
    · exact ih hM.2 hm
theorem _root_.Go.Proofs.Ytoalamakhjbedaa.Fr.sub {A : Act} {n : Nat} {L : List (Nat × Value)} {D : List Deferred} (h : Fr A n L D) (M : List (Nat × Value)) (hM : M.map (fun p => lookS L p.1) = M.map (fun p => some p.2) := by kernel_rfl) : Fr A n M D := by
  refine ⟨h.sz, h.df, fun s v hm => h.look ?_⟩
  induction M with
  | nil => simp at hm
  | cons p r ih =>
    simp only [List.map_cons, List.cons.injEq] at hM
    rcases List.mem_cons.1 hm with e | hm
    · subst e; exact hM.1
    · exact ih hM.2 hm
theorem thenN {next : Act → World → Prop} {Q : Exit → Act → World → Prop} {a : Act} {w : World} (h : next a w) : Exit.then next Q .normal a w := h
theorem blockN {id : Nat} {Q : Exit → Act → World → Prop} {a : Act} {w : World} (h : Q .normal a w) : Exit.inBlock id Q .normal a w := h
theorem blockX {id : Nat} {Q : Exit → Act → World → Prop} {a : Act} {w : World} (h : Q .normal a w) : Exit.inBlock id Q (.exit id) a w := by simp [Exit.inBlock, h]
theorem thenX {id : Nat} {next : Act → World → Prop} {Q : Exit → Act → World → Prop} {a : Act} {w : World} (h : Q (.exit id) a w) : Exit.then next Q (.exit id) a w := h
theorem thenR {next : Act → World → Prop} {Q : Exit → Act → World → Prop} {a : Act} {w : World} (h : Q .ret a w) : Exit.then next Q .ret a w := h
theorem blockR {id : Nat} {Q : Exit → Act → World → Prop} {a : Act} {w : World} (h : Q .ret a w) : Exit.inBlock id Q .ret a w := h
theorem blockO {id id' : Nat} {Q : Exit → Act → World → Prop} {a : Act} {w : World} (hne : (id' == id) = false) (h : Q (.exit id') a w) : Exit.inBlock id Q (.exit id') a w := by
  have : ¬ id' = id := by simpa using hne
  simp [Exit.inBlock, this, h]
theorem kn {vs : List (Option Value)} {i : Nat} {v : Value} (h : vs[i]? = some (some v)) : ∀ x, vs[i]? = some (some x) → v = x := fun x hx => by rw [h] at hx; injection hx with hx; injection hx
theorem un {vs : List (Option Value)} {i : Nat} {v : Value} (h : vs[i]? = some none) : ∀ x, vs[i]? = some (some x) → v = x := fun x hx => by rw [h] at hx; cases hx
theorem ret1 {fn : Func} {R : Ending → World → Prop} {A : Act} {w : World} {n s : Nat} {v : Value} {L : List (Nat × Value)} (F : Fr A n L) (hr : fn.results = #[.tmp s]) (hv : lookS L s = some v) (h : R (.returned v) w) : bodyPost P fn R .ret A w := by
  have e := F.look hv
  exact ⟨F.df, v, by simp [results, hr, e, go_sem], h⟩
theorem ret2 {fn : Func} {R : Ending → World → Prop} {A : Act} {w : World} {n s t : Nat} {v x : Value} {L : List (Nat × Value)} (F : Fr A n L) (hr : fn.results = #[.tmp s, .tmp t]) (hv : lookS L s = some v) (hx : lookS L t = some x) (h : R (.returned (.tuple #[v, x])) w) : bodyPost P fn R .ret A w := by
  have e := F.look hv
  have e2 := F.look hx
  exact ⟨F.df, _, by simp [results, hr, e, e2, go_sem], h⟩
theorem ret3 {fn : Func} {R : Ending → World → Prop} {A : Act} {w : World} {n s t r : Nat} {v x y : Value} {L : List (Nat × Value)} (F : Fr A n L) (hr : fn.results = #[.tmp s, .tmp t, .tmp r]) (hv : lookS L s = some v) (hx : lookS L t = some x) (hy : lookS L r = some y) (h : R (.returned (.tuple #[v, x, y])) w) : bodyPost P fn R .ret A w := by
  have e := F.look hv
  have e2 := F.look hx
  have e3 := F.look hy
  exact ⟨F.df, _, by simp [results, hr, e, e2, e3, go_sem], h⟩
end X
end
section
open Go.RowKit
namespace X
variable {P : Program} {ops : Array Oper} {Q : Exit → Act → World → Prop} {o : Oper} {rest : List Oper} {A : Act} {W W' : World} {n : Nat} {L : List (Nat × Value)} {D : List Deferred}

def putS (L : List (Nat × Value)) : Option Nat → Value → List (Nat × Value)
  | some d, v => (d, v) :: L.filter (fun p => !(p.1 == d))
  | none, _ => L
def delS (L : List (Nat × Value)) : Option Nat → List (Nat × Value)
  | some d => L.filter (fun p => !(p.1 == d))
  | none => L
theorem _root_.Go.Proofs.Ytoalamakhjbedaa.Fr.put (h : Fr A n L D) {o : Option Nat} {v : Value} (hd : (match o with | some d => decide (d < n) | none => true) = true) : Fr (A.put o v) n (putS L o v) D := by
  cases o with
  | none => exact h
  | some d =>
    simp only [decide_eq_true_eq] at hd
    refine ⟨by simp [Act.put, h.sz], h.df, fun s x hm => ?_⟩
    simp only [putS, List.mem_cons, Prod.mk.injEq, List.mem_filter] at hm
    rcases hm with ⟨rfl, rfl⟩ | ⟨h1, h2⟩
    · simp only [Act.put]
      rw [Array.getElem?_setIfInBounds_self_of_lt (by rw [h.sz]; exact hd)]
    · have hne : d ≠ s := by intro e; subst e; simp at h2
      simp only [Act.put]
      rw [Array.getElem?_setIfInBounds_ne hne]
      exact h.get s x h1
theorem _root_.Go.Proofs.Ytoalamakhjbedaa.Fr.del (h : Fr A n L D) {o : Option Nat} {v : Value} (hd : (match o with | some d => decide (d < n) | none => true) = true) : Fr (A.put o v) n (delS L o) D := by
  cases o with
  | none => exact h
  | some d =>
    have := h.put (o := some d) (v := v) hd
    exact ⟨this.sz, this.df, fun s x hm => this.get s x (List.mem_cons_of_mem _ hm)⟩
theorem _root_.Go.Proofs.Ytoalamakhjbedaa.Fr.yl (h : Fr A n L D) {j d : Nat} {b : Bool} (hj : ((ops[j]?).bind fun o : Oper => o.dst) = some d) (hv : lookS L d = some (.bool b)) : yielded ops A.tmps j = some b := by
  cases hoj : ops[j]? with
  | none => rw [hoj] at hj; simp at hj
  | some oj =>
    rw [hoj] at hj
    have hdj : oj.dst = some d := by simpa using hj
    simp [yielded, hoj, hdj, h.look hv]

/-- an operation that gives a value -/
theorem pval {v : Value} (F : Fr A n L D) (hw : Region.wanted o (yielded ops A.tmps) = true) (hd : (match o.dst with | some d => decide (d < n) | none => true) = true) (hrun : (execOp A.eval o).run P W = .ok (.value v) W') (h : ∀ A', Fr A' n (putS L o.dst v) D → wpList P ops Q rest A' W') : wpList P ops Q (o :: rest) A W := by
  refine wpList_step fun K hK => ?_
  rw [if_pos hw]
  unfold Oper.wp
  rw [hrun]
  exact hK _ _ (h _ (F.put hd))
/-- an operation that gives none -/
theorem punit (F : Fr A n L D) (hw : Region.wanted o (yielded ops A.tmps) = true) (hd : (match o.dst with | some d => decide (d < n) | none => true) = true) (hrun : (execOp A.eval o).run P W = .ok .skip W') (h : ∀ A', Fr A' n (delS L o.dst) D → wpList P ops Q rest A' W') : wpList P ops Q (o :: rest) A W := by
  refine wpList_step fun K hK => ?_
  rw [if_pos hw]
  unfold Oper.wp
  rw [hrun]
  exact hK _ _ (h _ (F.del hd))
theorem pskip (F : Fr A n L D) (hw : Region.wanted o (yielded ops A.tmps) = false) (hd : (match o.dst with | some d => decide (d < n) | none => true) = true) (h : ∀ A', Fr A' n (delS L o.dst) D → wpList P ops Q rest A' W) : wpList P ops Q (o :: rest) A W := by
  refine wpList_step fun K hK => ?_
  rw [if_neg (by rw [hw]; decide)]
  exact hK _ _ (h _ (F.del hd))
theorem pcall {f : FuncId} {args : Array Value} {T : Ending → World → Prop} (F : Fr A n L D) (hw : Region.wanted o (yielded ops A.tmps) = true) (hd : (match o.dst with | some d => decide (d < n) | none => true) = true) (hrun : (execOp A.eval o).run P W = .ok (.enter f args) W) (hc : Calls P f args W T)
    (h : ∀ e W', T e W' → ∃ v, e = .returned v ∧ ∀ A', Fr A' n (putS L o.dst v) D → wpList P ops Q rest A' W') : wpList P ops Q (o :: rest) A W := by
  refine wpList_step fun K hK => ?_
  rw [if_pos hw]
  unfold Oper.wp
  rw [hrun]
  refine hc.mono fun e W' hT => ?_
  obtain ⟨v, rfl, h2⟩ := h e W' hT
  exact hK _ _ (h2 _ (F.put hd))
/-- behind a law that ends at the act with the value laid down -/
theorem pput {d : Option Nat} {v : Value} (F : Fr A n L D) (hd : (match d with | some d => decide (d < n) | none => true) = true) (h : ∀ A', Fr A' n (putS L d v) D → wpList P ops Q rest A' W) : wpList P ops Q rest (A.put d v) W := h _ (F.put hd)

theorem bs {ρ : Operand → Value} {t : TypeId} {m : Nat} {xs : Array (Nat × Operand)} {vs : List (Nat × Value)} {v : Value} (ho : o.op = .buildSlice t m xs) (hx : xs.toList.map (fun p => (p.1, ρ p.2)) = vs) (hr : (Instr.buildSlice t m vs.toArray).run P W = .ok v W') : (execOp ρ o).run P W = .ok (.value v) W' := by
  unfold execOp; rw [ho]
  have : (xs.map fun (i, x) => (i, ρ x)) = vs.toArray := by
    cases xs with
    | mk l => subst hx; simp
  simp only [this]; exact run_v hr
theorem kc {ρ : Operand → Value} {x : Operand} (v : Value) (h : ρ x = v) : ρ x = v := h
theorem c5 {W : World} {p : Addr} {v0 v1 v2 v3 v4 : Value} (h0 : W.cell? (p.add 0) = some v0) (h1 : W.cell? (p.add 1) = some v1) (h2 : W.cell? (p.add 2) = some v2) (h3 : W.cell? (p.add 3) = some v3) (h4 : W.cell? (p.add 4) = some v4) : ∀ j v, [v0, v1, v2, v3, v4][j]? = some v → W.cell? (p.add j) = some v := fun j v h => by
  match j with
  | 0 => simp at h; subst h; exact h0
  | 1 => simp at h; subst h; exact h1
  | 2 => simp at h; subst h; exact h2
  | 3 => simp at h; subst h; exact h3
  | 4 => simp at h; subst h; exact h4
  | j + 5 => simp at h
theorem b1 {ρ : Operand → Value} {x : Operand} {v : Value} (h : ρ x = v) : [(0, x)].map (fun p : Nat × Operand => (p.1, ρ p.2)) = [(0, v)] := by simp [h]
theorem b2 {ρ : Operand → Value} {x y : Operand} {v z : Value} (h : ρ x = v) (k : ρ y = z) : [(0, x), (1, y)].map (fun p : Nat × Operand => (p.1, ρ p.2)) = [(0, v), (1, z)] := by simp [h, k]
end X
end
end
section
set_option linter.unusedVariables false
section
open Go.RowKit

theorem calls_marks {P : Program} {f : FuncId} {fn : Func} {c : Code} {args : Array Value} {w : World} {R : Ending → World → Prop} (hf : P.funcs[f]? = some fn) (hb : fn.body = some c)
    (h : c.wp P (bodyPostM Fence.wide 0 P fn R) { tmps := args ++ Array.replicate (fn.ntmps - args.size) undef, defers := [] } w) : Calls P f args w R :=
  callsIn_wide.1 (callsIn_of_wp_marks (F := Fence.wide) (n := 0) hf hb trivial ((wpIn_wide (n := 0)).2 h))
theorem marks_ret0 {P : Program} {fn : Func} {R : Ending → World → Prop} {a : Act} {w : World} {v : Value} (hr : (results fn a.tmps).run P w = .ok v w) (hd : a.defers = []) (hR : R (.returned v) w) : bodyPostM Fence.wide 0 P fn R .ret a w := by
  show LeavesInM _ _ _ _ _ _ a.defers _ _
  rw [hd]
  exact ⟨v, hr, hR⟩
theorem marks_ret1 {P : Program} {fn : Func} {R : Ending → World → Prop} {a : Act} {w : World} {v : Value} {D : Nat} (hd : a.defers = [{ target := .collected D, args := #[] }]) (hD : w.heap[D]? = some (.deferred (some [])))
    (hr : (results fn a.tmps).run P (w.putObj D (.deferred none)) = .ok v (w.putObj D (.deferred none))) (hR : R (.returned v) (w.putObj D (.deferred none))) : bodyPostM Fence.wide 0 P fn R .ret a w := by
  show LeavesInM _ _ _ _ _ _ a.defers _ _
  rw [hd]
  exact ⟨by simp, .inl ⟨_, _, rfl, run_takeDeferred hD, v, hr, hR⟩⟩
end
section
open Go.RowKit
namespace Y
variable {ro : Option Nat} {P : Program} {ops : Array Oper} {Q : Exit → Act → World → Prop} {o : Oper} {rest : List Oper} {A : Act} {W W' : World} {n : Nat} {L : List (Nat × Value)} {D : List Deferred}

/-- no fence but for the round -/
def FW (ro : Option Nat) : Fence := { Fence.wide with round := ro }
theorem seq {x y : Code} (h : x.wpIn (FW ro) 0 P (Exit.then (y.wpIn (FW ro) 0 P Q) Q) A W) : (Code.seq x y).wpIn (FW ro) 0 P Q A W := wpIn_seq h
theorem skip (h : Q .normal A W) : Code.skip.wpIn (FW ro) 0 P Q A W := wpIn_skip h
theorem exit {id : Nat} (h : Q (.exit id) A W) : (Code.exit id).wpIn (FW ro) 0 P Q A W := wpIn_exit h
theorem ret (h : Q .ret A W) : Code.ret.wpIn (FW ro) 0 P Q A W := wpIn_ret h
theorem block {id : Nat} {c : Code} (h : c.wpIn (FW ro) 0 P (Exit.inBlock id Q) A W) : (Code.block id c).wpIn (FW ro) 0 P Q A W := wpIn_block h
theorem condT {c : Operand} {x y : Code} (hc : A.eval c = .bool true) (h : x.wpIn (FW ro) 0 P Q A W) : (Code.cond c x y).wpIn (FW ro) 0 P Q A W := wpIn_cond_true hc h
theorem condF {c : Operand} {x y : Code} (hc : A.eval c = .bool false) (h : y.wpIn (FW ro) 0 P Q A W) : (Code.cond c x y).wpIn (FW ro) 0 P Q A W := wpIn_cond_false hc h
theorem loop {c : Code} (I : Nat → Act → World → Prop) (n₀ : Nat) (h₀ : I n₀ A W)
    (round : ∀ n a w, I n a w → c.wpIn (FW ro) 0 P (Exit.then (fun a' w' => ∃ n', n' < n ∧ I n' a' w') Q) a w) : (Code.loop c).wpIn (FW ro) 0 P Q A W := by
  refine wpIn_loop (fun a w => ∃ n, I n a w) (fun a w => leastOf (fun n => I n a w)) ⟨n₀, h₀⟩ ?_
  intro a w hI
  refine wpIn_mono (round _ a w (leastOf_spec hI).1) ?_
  intro e a' w' hq
  cases e with
  | normal =>
    obtain ⟨n', hlt, hI'⟩ := hq
    exact show (∃ n, I n a' w') ∧ leastOf (fun n => I n a' w') < leastOf (fun n => I n a w) from ⟨⟨n', hI'⟩, Nat.lt_of_le_of_lt ((leastOf_spec ⟨n', hI'⟩).2 n' hI') hlt⟩
  | exit id => exact hq
  | goto l => exact hq
  | ret => exact hq
  | panic ch => exact hq
  | outgrown => exact hq
theorem lit {id : Nat} {l : List Oper} (hd : (l.all fun o => match o.op with | .defer _ => false | _ => true) = true) (h : wpL P l.toArray Q l A W) : (Code.region id l.toArray false).wpIn (FW ro) 0 P Q A W := wpIn_region_L hd h
theorem nil (h : Q .normal A W) : wpL P ops Q [] A W := h

/-- an operation that gives a value -/
theorem pval {v : Value} (F : Fr A n L D) (hw : Region.wanted o (yielded ops A.tmps) = true) (hd : (match o.dst with | some d => decide (d < n) | none => true) = true) (hrun : (execOp A.eval o).run P W = .ok (.value v) W') (h : ∀ A', Fr A' n (X.putS L o.dst v) D → wpL P ops Q rest A' W') : wpL P ops Q (o :: rest) A W := by
  refine wpL_step fun K hK => ?_
  rw [if_pos hw]
  unfold Oper.wp
  rw [hrun]
  exact hK _ _ (h _ (F.put hd))
/-- an operation that gives none -/
theorem punit (F : Fr A n L D) (hw : Region.wanted o (yielded ops A.tmps) = true) (hd : (match o.dst with | some d => decide (d < n) | none => true) = true) (hrun : (execOp A.eval o).run P W = .ok .skip W') (h : ∀ A', Fr A' n (X.delS L o.dst) D → wpL P ops Q rest A' W') : wpL P ops Q (o :: rest) A W := by
  refine wpL_step fun K hK => ?_
  rw [if_pos hw]
  unfold Oper.wp
  rw [hrun]
  exact hK _ _ (h _ (F.del hd))
theorem pskip (F : Fr A n L D) (hw : Region.wanted o (yielded ops A.tmps) = false) (hd : (match o.dst with | some d => decide (d < n) | none => true) = true) (h : ∀ A', Fr A' n (X.putS L o.dst undef) D → wpL P ops Q rest A' W) : wpL P ops Q (o :: rest) A W := by
  refine wpL_step fun K hK => ?_
  rw [if_neg (by rw [hw]; decide)]
  exact hK _ _ (h _ (F.put hd))
/-- the guard has not been carried out itself -/
theorem w3 {y : Nat → Option Bool} {j : Nat} {b : Bool} (hg : o.guard = some (j, b)) (hy : y j = none) : Region.wanted o y = false := by simp [Region.wanted, hg, hy]
theorem yn_of {ops : Array Oper} {tmps : Array Value} {j d : Nat} (hj : ((ops[j]?).bind fun o : Oper => o.dst) = some d) (h : tmps.getD d undef = undef) : yielded ops tmps j = none := by
  cases hoj : ops[j]? with
  | none => rw [hoj] at hj; simp at hj
  | some oj =>
    rw [hoj] at hj
    have hdj : oj.dst = some d := by simpa using hj
    cases hd : tmps[d]? with
    | none => simp [yielded, hoj, hdj, hd]
    | some v =>
      have : v = undef := by simpa [hd] using h
      subst this
      simp [yielded, hoj, hdj, hd, undef]
theorem _root_.Go.Proofs.Ytoalamakhjbedaa.Fr.yn (F : Fr A n L D) {j d : Nat} (hj : ((ops[j]?).bind fun o : Oper => o.dst) = some d) (hv : lookS L d = some undef) : yielded ops A.tmps j = none := yn_of hj (F.ev d undef hv)
theorem pcall {f : FuncId} {args : Array Value} {T : Ending → World → Prop} (F : Fr A n L D) (hw : Region.wanted o (yielded ops A.tmps) = true) (hd : (match o.dst with | some d => decide (d < n) | none => true) = true) (hrun : (execOp A.eval o).run P W = .ok (.enter f args) W) (hc : Calls P f args W T)
    (h : ∀ e W', T e W' → ∃ v, e = .returned v ∧ ∀ A', Fr A' n (X.putS L o.dst v) D → wpL P ops Q rest A' W') : wpL P ops Q (o :: rest) A W := by
  refine wpL_step fun K hK => ?_
  rw [if_pos hw]
  unfold Oper.wp
  rw [hrun]
  refine hc.mono fun e W' hT => ?_
  obtain ⟨v, rfl, h2⟩ := h e W' hT
  exact hK _ _ (h2 _ (F.put hd))
/-- an operation by a law at Oper.wp -/
theorem plaw {T : Value → World → Prop} (F : Fr A n L D) (hw : Region.wanted o (yielded ops A.tmps) = true) (hd : (match o.dst with | some d => decide (d < n) | none => true) = true)
    (hlaw : ∀ K : Act → World → Prop, (∀ v W', T v W' → K (A.put o.dst v) W') → o.wp P A W K Q)
    (h : ∀ v W', T v W' → ∀ A', Fr A' n (X.putS L o.dst v) D → wpL P ops Q rest A' W') : wpL P ops Q (o :: rest) A W := by
  refine wpL_step fun K hK => ?_
  rw [if_pos hw]
  exact hlaw K (fun v W' hT => hK _ _ (h v W' hT _ (F.put hd)))

/-- a property of a value that lasts while memory only grows -/
structure MP where
  p : Value → World → Prop
  up : ∀ v W W', p v W → Gr W W' → p v W'
/-- not carried out -/
def MP.un : MP := ⟨fun v _ => v = undef, fun _ _ _ h _ => h⟩
/-- what is held in a region: memory has only grown; some operations' values have their properties -/
def RP (w : World) (Pr : List (Nat × MP)) : (Nat → Bool) → (Nat → Value) → World → Prop := fun done u W => Gr w W ∧ ∀ i q, Pr.lookup i = some q → done i = true → q.p (u i) W
section
variable {w : World} {Pr : List (Nat × MP)} {done : Nat → Bool} {u : Nat → Value}
theorem RP.step {i : Nat} {v : Value} (h : RP w Pr done u W) (g : Gr W W') (hi : Pr.lookup i = none) : RP w Pr (upd done i) (fun j => if j = i then v else u j) W' := by
  refine ⟨h.1.trans g, fun j q hj hd => ?_⟩
  by_cases e : j = i
  · subst e; rw [hi] at hj; cases hj
  · rw [upd_ne e] at hd
    simp only [if_neg e]
    exact q.up _ _ _ (h.2 j q hj hd) g
theorem RP.new {i : Nat} {v : Value} {q : MP} (h : RP w Pr done u W) (g : Gr W W') (hi : Pr.lookup i = some q) (hq : q.p v W') : RP w Pr (upd done i) (fun j => if j = i then v else u j) W' := by
  refine ⟨h.1.trans g, fun j q' hj hd => ?_⟩
  by_cases e : j = i
  · subst e; rw [hi] at hj; injection hj with hj; subst hj; simpa using hq
  · rw [upd_ne e] at hd
    simp only [if_neg e]
    exact q'.up _ _ _ (h.2 j q' hj hd) g
theorem _root_.Go.Proofs.Ytoalamakhjbedaa.Ste.yn {l : List Oper} {vs : List (Option Value)} {L : List (Nat × Value)} {i : Nat} {A : Act} (h : Ste l vs L i A done u) {j d : Nat} (hj : ((l[j]?).bind fun o : Oper => o.dst) = some d) (hu : u j = undef) : yielded l.toArray A.tmps j = none :=
  yn_of (by simpa using hj) ((h.own j d hj).trans hu)
/-- an operation that is not wanted -/
theorem RP.skipU {i : Nat} (h : RP w Pr done u W) (hi : Pr.lookup i = some MP.un) : RP w Pr (upd done i) (fun j => if j = i then undef else u j) W := RP.new (q := MP.un) h (Gr.refl _) hi rfl
theorem RP.skip {i : Nat} (h : RP w Pr done u W) (hi : Pr.lookup i = none) : RP w Pr (upd done i) (fun j => if j = i then undef else u j) W := h.step (Gr.refl _) hi
theorem RP.get {i : Nat} (h : RP w Pr done u W) (q : MP) (hi : Pr.lookup i = some q) (hd : done i = true) : q.p (u i) W := h.2 i q hi hd
end
theorem region {id : Nat} {l : List Oper} {d : Bool} {w : World} {a : Act} (F : Fr a n L D) (vs : List (Option Value)) (Pr : List (Nat × MP)) (hm : P.follows .mixedOrders = true) (ok : RegOk l vs n)
    (hstep : AllIdx (StepX P l vs L Q (RP w Pr)) l 0)
    (hfin : ∀ (A : Act) (u : Nat → Value) (W : World), A.tmps.size = n → A.defers = D → (∀ s v, lastAt l vs L s = some v → A.tmps[s]? = some v) → (∀ j d, ((l[j]?).bind fun o : Oper => o.dst) = some d → A.tmps[d]? = some (u j)) → RP w Pr (fun j => decide (j < l.length)) u W → Q .normal A W) :
    (Code.region id l.toArray d).wpIn (FW ro) 0 P Q a w :=
  region_xi F vs (RP w Pr) hm ok (fun _ => ⟨⟨Gr.refl _, fun _ _ _ h => by cases h⟩, ⟨Gr.drew _, fun _ _ _ h => by cases h⟩⟩) hstep hfin
theorem _root_.Go.Proofs.Ytoalamakhjbedaa.Fr.add (F : Fr A n L D) {d : Nat} {v z : Value} (h : A.tmps[d]? = some v) (e : v = z) : Fr A n ((d, z) :: L) D := by
  subst e
  refine ⟨F.sz, F.df, fun s x hm => ?_⟩
  rcases List.mem_cons.1 hm with hm | hm
  · injection hm with h1 h2; subst h1 h2; exact h
  · exact F.get s x hm

/-- a function's contract from its body -/
theorem calls {f : FuncId} {fn : Func} {c : Code} {args : Array Value} {w : World} {R : Ending → World → Prop} (N : Nat) (hf : P.funcs[f]? = some fn) (hb : fn.body = some c) (hN : args.size + (fn.ntmps - args.size) = N)
    (h : ∀ A, Fr A N (X.argL args.toList 0) → c.wpIn (FW none) 0 P (bodyPostM Fence.wide 0 P fn R) A w) : Calls P f args w R := by
  refine callsIn_wide.1 (callsIn_of_wp_marks (F := Fence.wide) (n := 0) hf hb trivial ?_)
  refine h _ ⟨by simpa using hN, rfl, fun s v hm => ?_⟩
  obtain ⟨_, h2⟩ := X.argL_mem hm
  rw [Nat.sub_zero] at h2
  have hlt := (List.getElem?_eq_some_iff.1 h2).1
  show (args ++ Array.replicate (fn.ntmps - args.size) undef)[s]? = some v
  rw [Array.getElem?_append_left (by simpa using hlt)]
  simpa using h2
/-- the results -/
theorem rs1 {fn : Func} {s : Nat} {v : Value} (F : Fr A n L D) (hr : fn.results = #[.tmp s]) (hv : lookS L s = some v) : (results fn A.tmps).run P W = .ok v W := by
  have e := F.look hv
  simp [results, hr, e, go_sem]
theorem rs2 {fn : Func} {s t : Nat} {v x : Value} (F : Fr A n L D) (hr : fn.results = #[.tmp s, .tmp t]) (hv : lookS L s = some v) (hx : lookS L t = some x) : (results fn A.tmps).run P W = .ok (.tuple #[v, x]) W := by
  have e := F.look hv
  have e2 := F.look hx
  simp [results, hr, e, e2, go_sem]
theorem rs3 {fn : Func} {s t r : Nat} {v x y : Value} (F : Fr A n L D) (hr : fn.results = #[.tmp s, .tmp t, .tmp r]) (hv : lookS L s = some v) (hx : lookS L t = some x) (hy : lookS L r = some y) : (results fn A.tmps).run P W = .ok (.tuple #[v, x, y]) W := by
  have e := F.look hv
  have e2 := F.look hx
  have e3 := F.look hy
  simp [results, hr, e, e2, e3, go_sem]
/-- the first one lies in a cell -/
theorem rc2 {fn : Func} {s t : Nat} {ty : TypeId} {p : Addr} {v x : Value} (F : Fr A n L D) (hr : fn.results = #[.cell s ty, .tmp t]) (hA : (isAgg ty).run P W = .ok false W) (hp : lookS L s = some (.pointer (some p))) (hv : W.cell? p = some v) (hx : lookS L t = some x) : (results fn A.tmps).run P W = .ok (.tuple #[v, x]) W := by
  have e := F.look hp
  have e2 := F.look hx
  simp [results, hr, e, e2, go_sem, Instr.loadAt, loadVar, Instr.sureAddr, hA, hv]
theorem ret0 {fn : Func} {R : Ending → World → Prop} {v : Value} (F : Fr A n L) (hr : (results fn A.tmps).run P W = .ok v W) (h : R (.returned v) W) : bodyPostM Fence.wide 0 P fn R .ret A W := marks_ret0 hr F.df h
theorem ret1 {fn : Func} {R : Ending → World → Prop} {v : Value} {k : Nat} (F : Fr A n L [{ target := .collected k, args := #[] }]) (hk : W.heap[k]? = some (.deferred (some []))) (hr : (results fn A.tmps).run P (W.putObj k (.deferred none)) = .ok v (W.putObj k (.deferred none))) (h : R (.returned v) (W.putObj k (.deferred none))) : bodyPostM Fence.wide 0 P fn R .ret A W := marks_ret1 F.df hk hr h
theorem _root_.Go.Proofs.Ytoalamakhjbedaa.Gr.putObj {a b : World} (h : Gr a b) {r : Nat} (hp : a.heap.size ≤ r) (x : Obj) : Gr a (b.putObj r x) :=
  (Only.putObj (h.only (fun _ => False)) (.inr hp) x).gr (fun _ _ h => h)
/-- two bools -/
theorem eqlB {t : TypeId} {x y : Operand} (hu : P.underlying t = some .bool) {p q b : Bool} (hb : (p == q) = b) : (do eqGuard .eql t x y (.bool p) (.bool q); binOp .eql t (.bool p) (.bool q) : Sem Value).run P W = .ok (.bool b) W := by
  subst hb
  obtain ⟨d, hd⟩ : ∃ d, Op.maxDepth = d + 1 := ⟨_, rfl⟩
  simp [eqGuard, binOp, Op.equal, hd, Op.equalIn, run_underlying hu, go_sem]
theorem neqB {t : TypeId} {x y : Operand} (hu : P.underlying t = some .bool) {p q b : Bool} (hb : (p != q) = b) : (do eqGuard .neq t x y (.bool p) (.bool q); binOp .neq t (.bool p) (.bool q) : Sem Value).run P W = .ok (.bool b) W := by
  subst hb
  obtain ⟨d, hd⟩ : ∃ d, Op.maxDepth = d + 1 := ⟨_, rfl⟩
  simp [eqGuard, binOp, Op.equal, hd, Op.equalIn, run_underlying hu, go_sem, bne]
/-- nil, and not -/
theorem nilT {t e : TypeId} {x y : Operand} (hu : P.underlying t = some (.slice e)) : (do eqGuard .eql t x y (.slice none 0 0) (.slice none 0 0); binOp .eql t (.slice none 0 0) (.slice none 0 0) : Sem Value).run P W = .ok (.bool true) W := by
  obtain ⟨d, hd⟩ : ∃ d, Op.maxDepth = d + 1 := ⟨_, rfl⟩
  simp [eqGuard, binOp, Op.equal, hd, Op.equalIn, run_underlying hu, go_sem]
theorem nilF {t e : TypeId} {x y : Operand} (hu : P.underlying t = some (.slice e)) {a : Addr} {k c : Nat} : (do eqGuard .eql t x y (.slice (some a) k c) (.slice none 0 0); binOp .eql t (.slice (some a) k c) (.slice none 0 0) : Sem Value).run P W = .ok (.bool false) W := by
  obtain ⟨d, hd⟩ : ∃ d, Op.maxDepth = d + 1 := ⟨_, rfl⟩
  simp [eqGuard, binOp, Op.equal, hd, Op.equalIn, run_underlying hu, go_sem]
/-- a new variable; a new slice -/
theorem al {ρ : Operand → Value} {t : TypeId} {v : Value} (ho : o.op = .alloc t) (hr : (Instr.alloc t true (.tuple #[])).run P W = .ok v W') : (execOp ρ o).run P W = .ok (.value v) W' := by
  unfold execOp; rw [ho]; exact X.run_v hr
theorem mk {ρ : Operand → Value} {t : TypeId} {x y : Operand} {p q v : Value} (ho : o.op = .makeSlice t x y) (hx : ρ x = p) (hy : ρ y = q) (hr : (Instr.makeSlice t p q).run P W = .ok v W') : (execOp ρ o).run P W = .ok (.value v) W' := by
  unfold execOp; rw [ho]; simp only [hx, hy]; exact X.run_v hr
theorem pput {d : Option Nat} {v : Value} (F : Fr A n L D) (hd : (match d with | some d => decide (d < n) | none => true) = true) (h : ∀ A', Fr A' n (X.putS L d v) D → wpL P ops Q rest A' W) : wpL P ops Q rest (A.put d v) W := h _ (F.put hd)
theorem wpL_plain (hg : o.guard = none) {a : Act} {w : World} (h : ∀ K : Act → World → Prop, (∀ a w, wpL P ops Q rest a w → K a w) → o.wp P a w K Q) : wpL P ops Q (o :: rest) a w :=
  wpL_step fun K hK => by rw [if_pos (X.w0 hg)]; exact h K hK
/-- a cell that is written -/
theorem st1 {t : TypeId} {p : Addr} {v v0 : Value} (hS : (sizeOf t).run P W = .ok 1 W) (hv : v.cells = #[v]) (hv1 : v.oneCell' = true) (hc : W.cell? p = some v0) (hf : W.frozen? p = false) : (Instr.storeAt t (.pointer (some p)) v).run P W = .ok () (W.setCell p v) := by
  have h := run_store P W p v .plain hv1
  rw [hc, hf] at h
  simp only [Bool.false_eq_true, if_false] at h
  unfold Value.cells at hv
  simp [Instr.storeAt, storeVar, Instr.sureAddr, hS, hv, storeCells, Value.cells, go_sem, h]
end Y
end
section
open Go.RowKit
namespace Y
variable {P : Program} {W W' : World}

theorem addr_add (g i j : Nat) : (⟨g, i, none⟩ : Addr).add j = ⟨g, i + j, none⟩ := by
  unfold Addr.add; split
  · subst_vars; rfl
  · rfl
/-- a block of N cells: what each holds -/
def Own (W : World) (b N : Nat) (val : Nat → Value) : Prop := ∃ cs t, W.heap[b]? = some (.cells cs t (0, 0)) ∧ cs.size = N ∧ ∀ k, k < N → cs[k]? = some (val k)
section
variable {b N : Nat} {val : Nat → Value}
theorem Own.lt (h : Own W b N val) : b < W.heap.size := by
  obtain ⟨_, _, h, _⟩ := h
  exact (Array.getElem?_eq_some_iff.1 h).1
theorem Own.only {S : Nat → Prop} (h : Own W b N val) (g : Only S W W') (hs : ¬ S b) : Own W' b N val := by
  have hlt := h.lt
  obtain ⟨cs, t, h1, h2⟩ := h
  exact ⟨cs, t, (g.block b hlt hs).trans h1, h2⟩
theorem Own.gr (h : Own W b N val) (g : Gr W W') : Own W' b N val := h.only (g.only (fun _ => False)) (fun h => h)
theorem Own.cell (h : Own W b N val) {k : Nat} (hk : k < N) : W.cell? ⟨b, k, none⟩ = some (val k) := by
  obtain ⟨cs, t, h1, _, h3⟩ := h
  exact cell_at h1 (h3 k hk)
theorem Own.fz (h : Own W b N val) (k : Nat) : W.frozen? ⟨b, k, none⟩ = false := by
  obtain ⟨cs, t, h1, _⟩ := h
  unfold World.frozen?
  simp [h1]
theorem Own.set (h : Own W b N val) {k : Nat} (v : Value) : Own (W.setCell ⟨b, k, none⟩ v) b N (fun j => if j = k then v else val j) := by
  obtain ⟨cs, t, h1, h2, h3⟩ := h
  refine ⟨cs.setIfInBounds k v, t, heap_setCell_same W b k cs t v h1, by simpa using h2, fun j hj => ?_⟩
  show _ = some (if j = k then v else val j)
  by_cases e : j = k
  · subst e; rw [if_pos rfl, Array.getElem?_setIfInBounds_self_of_lt (by omega)]
  · rw [if_neg e, Array.getElem?_setIfInBounds_ne (Ne.symm e)]; exact h3 j hj
theorem Own.congr {val' : Nat → Value} (h : Own W b N val) (he : ∀ k, k < N → val k = val' k) : Own W b N val' := by
  obtain ⟨cs, t, h1, h2, h3⟩ := h
  exact ⟨cs, t, h1, h2, fun k hk => by rw [h3 k hk, he k hk]⟩
theorem Own.new {cs : Array Value} {t : TypeId} (h : W.heap[b]? = some (.cells cs t)) (hn : cs.size = N) (hv : ∀ k, k < N → cs[k]? = some (val k)) : Own W b N val := ⟨cs, t, h, hn, hv⟩
theorem set_only (W : World) (b k : Nat) (v : Value) : Only (fun x => x = b) W (W.setCell ⟨b, k, none⟩ v) := Only.setCell (S := fun x => x = b) (Only.refl _ _) (p := ⟨b, k, none⟩) (.inl rfl) v
/-- what was there before the block was made stays -/
theorem Only.up {wb : World} (g : Gr wb W) (h : Only (fun x => x = b) W W') (hb : wb.heap.size ≤ b) : Gr wb W' :=
  ((g.only (fun x => wb.heap.size ≤ x)).trans (h.mono' (fun i e => by subst e; exact hb))).gr (fun i hi e => by omega)

/-- a cell that is written -/
theorem Own.st1 {t : TypeId} {k : Nat} {v : Value} (h : Own W b N val) (hS : (sizeOf t).run P W = .ok 1 W) (hv : v.cells = #[v]) (hv1 : v.oneCell' = true) (hk : k < N) :
    ∃ W', (Instr.storeAt t (.pointer (some ⟨b, k, none⟩)) v).run P W = .ok () W' ∧ Own W' b N (fun j => if j = k then v else val j) ∧ Only (fun x => x = b) W W' :=
  ⟨_, Y.st1 hS hv hv1 (h.cell hk) (h.fz k), h.set v, set_only _ _ _ _⟩
/-- a struct of three numbers that is written -/
theorem Own.st3 {t : TypeId} {k : Nat} {x y z : Int} (h : Own W b N val) (hS : (sizeOf t).run P W = .ok 3 W) (hk : k + 2 < N) :
    ∃ W', (Instr.storeAt t (.pointer (some ⟨b, k, none⟩)) (.agg #[.int .i64 x, .int .i64 y, .int .i64 z])).run P W = .ok () W' ∧ Own W' b N (fun j => if j = k + 2 then .int .i64 z else if j = k + 1 then .int .i64 y else if j = k then .int .i64 x else val j) ∧ Only (fun x => x = b) W W' := by
  have h0 := h.set (k := k) (.int .i64 x)
  have h1 := h0.set (k := k + 1) (.int .i64 y)
  have h2 := h1.set (k := k + 2) (.int .i64 z)
  refine ⟨_, ?_, h2, ((set_only _ _ _ _).trans (set_only _ _ _ _)).trans (set_only _ _ _ _)⟩
  have c0 := h.cell (k := k) (by omega)
  have f0 := h.fz k
  have c1 := h0.cell (k := k + 1) (by omega)
  have f1 := h0.fz (k + 1)
  have c2 := h1.cell (k := k + 2) (by omega)
  have f2 := h1.fz (k + 2)
  have e0 : (⟨b, k, none⟩ : Addr).add 0 = ⟨b, k, none⟩ := rfl
  have e1 : (⟨b, k, none⟩ : Addr).add 1 = ⟨b, k + 1, none⟩ := rfl
  have e2 : (⟨b, k, none⟩ : Addr).add 2 = ⟨b, k + 2, none⟩ := rfl
  simp [Instr.storeAt, storeVar, Instr.sureAddr, hS, storeCells, Value.cells, go_sem, e0, e1, e2, c0, f0, c1, f1, c2, f2]
end
/-- a new variable of three numbers, zero -/
def MP.var3 (B : Nat) : MP := ⟨fun v W => ∃ b, v = .pointer (some ⟨b, 0, none⟩) ∧ Own W b 3 (fun _ => .int .i64 0) ∧ B ≤ b, fun _ _ _ ⟨b, h1, h2, h3⟩ g => ⟨b, h1, h2.gr g, h3⟩⟩
theorem var3_new {W : World} {b : Nat} {t : TypeId} (h : W.heap[b]? = some (.cells #[.int .i64 0, .int .i64 0, .int .i64 0] t)) : Own W b 3 (fun _ => .int .i64 0) := Own.new h rfl (fun k hk => by
  have : k = 0 ∨ k = 1 ∨ k = 2 := by omega
  rcases this with rfl | rfl | rfl <;> rfl)
theorem c3 {W : World} {p : Addr} {v0 v1 v2 : Value} (h0 : W.cell? (p.add 0) = some v0) (h1 : W.cell? (p.add 1) = some v1) (h2 : W.cell? (p.add 2) = some v2) : ∀ j v, [v0, v1, v2][j]? = some v → W.cell? (p.add j) = some v := fun j v h => by
  match j with
  | 0 => simp at h; subst h; exact h0
  | 1 => simp at h; subst h; exact h1
  | 2 => simp at h; subst h; exact h2
  | j + 3 => simp at h
theorem bd {o : Oper} {ρ : Operand → Value} {t : TypeId} {xs : Array (Nat × Operand)} {vs : List (Nat × Value)} {v : Value} (ho : o.op = .build t xs) (hx : xs.toList.map (fun p => (p.1, ρ p.2)) = vs) (hr : (Instr.build t vs.toArray).run P W = .ok v W') : (execOp ρ o).run P W = .ok (.value v) W' := by
  unfold execOp; rw [ho]
  have : (xs.map fun (i, x) => (i, ρ x)) = vs.toArray := by
    cases xs with
    | mk l => subst hx; simp
  simp only [this]; exact X.run_v hr
theorem b3 {ρ : Operand → Value} {x y z : Operand} {v1 v2 v3 : Value} (h1 : ρ x = v1) (h2 : ρ y = v2) (h3 : ρ z = v3) : [(0, x), (1, y), (2, z)].map (fun p : Nat × Operand => (p.1, ρ p.2)) = [(0, v1), (1, v2), (2, v3)] := by simp [h1, h2, h3]

/-- what is held in a region whose last operation is its only store -/
def RT (w : World) (Pr : List (Nat × MP)) (s : Nat) (T : (Nat → Value) → World → Prop) : (Nat → Bool) → (Nat → Value) → World → Prop := fun done u W => (done s = false → RP w Pr done u W) ∧ (done s = true → T u W)
theorem RT.of {w : World} {Pr : List (Nat × MP)} {s i : Nat} {T : (Nat → Value) → World → Prop} {done : Nat → Bool} {u : Nat → Value} (hs : done s = false) (hi : (s == i) = false) (h : RP w Pr (upd done i) u W) : RT w Pr s T (upd done i) u W :=
  ⟨fun _ => h, fun h2 => by rw [upd_ne (by simpa using hi), hs] at h2; cases h2⟩
theorem RT.fin {w : World} {Pr : List (Nat × MP)} {s : Nat} {T : (Nat → Value) → World → Prop} {done : Nat → Bool} {u : Nat → Value} (h : T u W) : RT w Pr s T (upd done s) u W :=
  ⟨fun h2 => absurd h2 (by rw [upd_self]; decide), fun _ => h⟩
theorem regionS {ro : Option Nat} {n : Nat} {L : List (Nat × Value)} {D : List Deferred} {Q : Exit → Act → World → Prop} {id : Nat} {l : List Oper} {d : Bool} {w : World} {a : Act} (F : Fr a n L D) (vs : List (Option Value)) (Pr : List (Nat × MP)) (s : Nat) (T : (Nat → Value) → World → Prop) (hm : P.follows .mixedOrders = true) (ok : RegOk l vs n) (hsl : s < l.length)
    (hstep : AllIdx (StepX P l vs L Q (RT w Pr s T)) l 0)
    (hfin : ∀ (A : Act) (u : Nat → Value) (W : World), A.tmps.size = n → A.defers = D → (∀ s v, lastAt l vs L s = some v → A.tmps[s]? = some v) → (∀ j d, ((l[j]?).bind fun o : Oper => o.dst) = some d → A.tmps[d]? = some (u j)) → T u W → Q .normal A W) :
    (Code.region id l.toArray d).wpIn (FW ro) 0 P Q a w :=
  region_xi F vs (RT w Pr s T) hm ok (fun _ => ⟨⟨fun _ => ⟨Gr.refl _, fun _ _ _ h => by cases h⟩, fun h => by cases h⟩, ⟨fun _ => ⟨Gr.drew _, fun _ _ _ h => by cases h⟩, fun h => by cases h⟩⟩) hstep
    (fun A u W h1 h2 h3 h4 h5 => hfin A u W h1 h2 h3 h4 (h5.2 (by simpa using hsl)))
end Y
theorem X.quoI {P : Program} {W : World} {t : TypeId} (_hu : P.underlying t = some (.int .i64)) {x y : Operand} {p q z : Int} (hz : p / q = z) (h0 : 0 ≤ p ∧ p ≤ 9223372036854775807) (h1 : 0 < q) : (do eqGuard .quo t x y (.int .i64 p) (.int .i64 q); binOp .quo t (.int .i64 p) (.int .i64 q) : Sem Value).run P W = .ok (.int .i64 z) W := by
  have hd : p.tdiv q = p / q := Int.tdiv_eq_ediv_of_nonneg h0.1
  have h2 : 0 ≤ p / q := Int.ediv_nonneg h0.1 (by omega)
  have h3 : p / q ≤ p := Int.ediv_le_self q h0.1
  have hne : ¬ q = 0 := by omega
  subst hz
  have hw := IntWalk.i64_in (p / q) ⟨by omega, by omega⟩
  simp [eqGuard, binOp, Op.intDiv, go_sem, hne, hd, hw]
end
section
open Go.RowKit

/-- **A RANGE OVER A FUNCTION.** D: the heap's size where the loop begins. -/
theorem range_rule2 {P : Program} {α : Type} {g : Operand} {ps : Array Tmp} {assign body : Code} {Q : Exit → Act → World → Prop} {a : Act} {w : World} {gf : Nat} {lb : Array Value}
    (hg : a.eval g = .func (.func gf) #[] lb) (eg : ∀ args w, (callFunc gf args).run P w = .ok (.enter gf args) w)
    (I : List α → World → Prop) (Ix : Code → World → Prop) (Y : Nat → Prop) (E : List α → α → Array Value → World → Prop) (S : List α → Prop) (a₁ : Array Value → Act)
    (hY0 : ¬ Y w.heap.size) (hY1 : ¬ Y (w.heap.size + 1))
    (hI : ∀ xs W o, I xs W → I xs (W.putObj (w.heap.size + 1) (.loop o))) (hIx : ∀ c W o, Ix c W → Ix c (W.putObj (w.heap.size + 1) (.loop o)))
    (hEs : ∀ pre x args W, E pre x args W → args.size = ps.size) (hEp : ∀ pre x args W o, E pre x args W → E pre x args (W.putObj (w.heap.size + 1) (.loop o)))
    (h0 : I [] w) (hIa : ∀ xs W o, I xs W → I xs (W.alloc o))
    (hassign : ∀ (l : Nat) (pre : List α) (x : α) (args : Array Value) (W : World) (K : Act → World → Prop), E pre x args W → K (a₁ args) W →
      assign.wpIn (Fence.wide.inRound l) 0 P (Exit.then K (fun _ _ _ => False)) { tmps := (ps.zip args).foldl (fun t (p, v) => t.setIfInBounds p v) a.tmps, defers := [] } W)
    (hbody : ∀ (pre : List α) (x : α) (args : Array Value) (W : World), I pre W → E pre x args W → w.heap.size + 1 < W.heap.size → body.wpIn (Fence.wide.inRound (w.heap.size + 1)) 0 P (roundQ Y I Ix (pre ++ [x]) W) (a₁ args) W)
    (hiter : ∀ (L : Loop), L.state = .ready → L.pending = none →
      (∀ pre x args W, Between w.heap.size L I pre W → E pre x args W → YieldAt Fence.wide 0 P (w.heap.size + 1) args W fun e W' =>
        (e = .returned (.bool true) ∧ Between w.heap.size L I (pre ++ [x]) W' ∧ Only Y W W') ∨ (e = .returned (.bool false) ∧ Left w.heap.size L Ix W')) →
      Between w.heap.size L I [] ((w.alloc (.deferred (some []))).alloc (.loop L)) →
      CallsIn Fence.wide 0 P gf (#[.func (.yield (w.heap.size + 1)) #[] #[]] ++ lb) ((w.alloc (.deferred (some []))).alloc (.loop L)) fun e W' =>
        (∃ v, e = .returned v) ∧ ((∃ xs, S xs ∧ Between w.heap.size L I xs W') ∨ Left w.heap.size L Ix W'))
    (hdone : ∀ (xs : List α) (W : World), S xs → I xs W → W.heap[w.heap.size]? = some (.deferred (some [])) → Q .normal { a with defers := { target := .collected w.heap.size, args := #[] } :: a.defers } W)
    (hstop : ∀ (c : Code) (W : World), Ix c W → W.heap[w.heap.size]? = some (.deferred (some [])) → c.wpIn Fence.wide 0 P Q { a with defers := { target := .collected w.heap.size, args := #[] } :: a.defers } W) :
    (Code.rangeFunc g ps assign body).wp P Q a w := by
  refine (wpIn_wide (n := 0)).1 ?_
  refine wpIn_rangeFunc ?_
  intro fn hfn
  obtain ⟨L, hL⟩ : ∃ L : Loop, L = { state := .ready, pending := none, fn, tmps := a.tmps, params := ps, assign, body, defers := w.heap.size } := ⟨_, rfl⟩
  obtain ⟨W1, hW1⟩ : ∃ W1, (w.alloc (.deferred (some []))).alloc (.loop L) = W1 := ⟨_, rfl⟩
  have hL1 : W1.heap[w.heap.size + 1]? = some (.loop L) := by
    rw [← hW1]; have := World.alloc_heap_new (w.alloc (.deferred (some []))) (.loop L); rwa [World.size_alloc] at this
  have hK1 : W1.heap[w.heap.size]? = some (.deferred (some [])) := by
    rw [← hW1]; exact (Below.heap_alloc _ _ _ (by simp)).trans (World.alloc_heap_new w _)
  have hI1 : I [] W1 := by rw [← hW1]; exact hIa _ _ _ (hIa _ _ _ h0)
  refine ⟨w.heap.size + 1, [{ target := .collected w.heap.size, args := #[] }], W1, { target := .fn (.func gf) lb, args := #[.func (.yield (w.heap.size + 1)) #[] #[]] }, W1, gf,
    #[.func (.yield (w.heap.size + 1)) #[] #[]] ++ lb, W1, ?_, ?_, fun _ _ => trivial, ?_, fun h => by simp [Fence.wide] at h, ?_⟩
  · rw [← hW1, hL]; exact run_enterLoop_outer _ _ _ _ _
  · simp only [resolve, hg]
    simp [go_sem]
  · simp [invoke, go_sem, eg]
  · have hit := hiter L (by rw [hL]) (by rw [hL])
    rw [hW1] at hit
    refine (hit ?_ ⟨hI1, hL1, hK1⟩).mono ?_
    · rintro pre x args W ⟨hi, hl, hk⟩ hE
      have hlt : w.heap.size + 1 < W.heap.size := (Array.getElem?_eq_some_iff.1 hl).1
      have hy := run_yield (P := P) (args := args) hl (by rw [hL]; exact hEs pre x args W hE)
      rw [hL] at hy
      refine ⟨fn, _, assign, body, hy, roundIn_of_wpIn (F := Fence.wide) trivial (hassign _ pre x args W _ hE ⟨_, run_beginRound hl (by rw [hL]), ?_⟩)⟩
      have hl2 : (W.putObj (w.heap.size + 1) (.loop { L with state := .busy })).heap[w.heap.size + 1]? = some (.loop { L with state := .busy }) := World.putObj_heap_same hlt
      have hk2 : (W.putObj (w.heap.size + 1) (.loop { L with state := .busy })).heap[w.heap.size]? = some (.deferred (some [])) := (World.putObj_heap_other (by omega)).trans hk
      have hsz2 : (W.putObj (w.heap.size + 1) (.loop { L with state := .busy })).heap.size = W.heap.size := by simp
      refine wpIn_mono (hbody pre x args _ (hI _ _ _ hi) (hEp _ _ _ _ _ hE) (by rw [hsz2]; exact hlt)) ?_
      have hrest : ∀ (W3 : World) (o : Loop), Only Y (W.putObj (w.heap.size + 1) (.loop { L with state := .busy })) W3 → (W3.putObj (w.heap.size + 1) (.loop o)).heap[w.heap.size]? = some (.deferred (some [])) := fun W3 o ho =>
        (World.putObj_heap_other (by omega)).trans ((ho.block _ (by rw [hsz2]; omega) hY0).trans hk2)
      have hl3 : ∀ (W3 : World), Only Y (W.putObj (w.heap.size + 1) (.loop { L with state := .busy })) W3 → W3.heap[w.heap.size + 1]? = some (.loop { L with state := .busy }) := fun W3 ho =>
        (ho.block _ (by rw [hsz2]; omega) hY1).trans hl2
      rintro e a3 W3 hp
      cases e with
      | normal =>
        obtain ⟨ho, hi3⟩ := hp
        have hl4 := hl3 W3 ho
        have hlt4 : w.heap.size + 1 < W3.heap.size := (Array.getElem?_eq_some_iff.1 hl4).1
        have hrun := run_endRound (P := P) none hl4
        have hLL : ({ ({ L with state := .busy } : Loop) with state := if (none : Option Code).isNone then .ready else .done, pending := none } : Loop) = L := by rw [hL]; rfl
        rw [hLL] at hrun
        refine ⟨_, _, hrun, .inl ⟨rfl, ⟨hI _ _ _ hi3, World.putObj_heap_same hlt4, hrest W3 L ho⟩, ?_⟩⟩
        refine ⟨ho.os, ho.tape, ho.output, by have := ho.size; simp at this ⊢; exact this, fun b hb hn => ?_⟩
        by_cases e : b = w.heap.size + 1
        · subst e; rw [World.putObj_heap_same hlt4, hl]
        · rw [World.putObj_heap_other e, ho.block b (by rw [hsz2]; exact hb) hn, World.putObj_heap_other e]
      | ret =>
        obtain ⟨ho, hi3⟩ := hp
        have hl4 := hl3 W3 ho
        have hlt4 : w.heap.size + 1 < W3.heap.size := (Array.getElem?_eq_some_iff.1 hl4).1
        have hrun := run_endRound (P := P) (some .ret) hl4
        exact ⟨_, _, hrun, .inr ⟨rfl, .ret, hIx _ _ _ hi3, World.putObj_heap_same hlt4, hrest W3 _ ho⟩⟩
      | exit id =>
        obtain ⟨ho, hi3⟩ := hp
        have hl4 := hl3 W3 ho
        have hlt4 : w.heap.size + 1 < W3.heap.size := (Array.getElem?_eq_some_iff.1 hl4).1
        have hrun := run_endRound (P := P) (some (.exit id)) hl4
        exact ⟨_, _, hrun, .inr ⟨rfl, .exit id, hIx _ _ _ hi3, World.putObj_heap_same hlt4, hrest W3 _ ho⟩⟩
      | goto t => exact hp.elim
      | panic ch => exact hp.elim
      | outgrown => exact hp.elim
    · rintro e W2 ⟨⟨v, rfl⟩, (⟨xs, hS, hi, hl, hk⟩ | ⟨c, hi, hl, hk⟩)⟩
      · refine ⟨L.pending, _, run_endLoop (P := P) hl (by rw [hL]; simp), ?_⟩
        have : L.pending = none := by rw [hL]
        rw [this]
        exact hdone xs _ hS (hI _ _ _ hi) ((World.putObj_heap_other (by omega)).trans hk)
      · refine ⟨some c, _, run_endLoop (P := P) hl (by simp), ?_⟩
        exact hstop c _ (hIx _ _ _ hi) ((World.putObj_heap_other (by omega)).trans hk)
end
end
section
set_option linter.unusedVariables false
open Go.RowKit

def wr64 (n : Nat) : Int := IntKind.i64.wrap (n : Int)
def andV (x y : Int) : Int := wr64 (BitVec.ofInt 64 x &&& BitVec.ofInt 64 y).toNat
def orV (x y : Int) : Int := wr64 (BitVec.ofInt 64 x ||| BitVec.ofInt 64 y).toNat
def anotV (x y : Int) : Int := wr64 (BitVec.ofInt 64 x &&& ~~~BitVec.ofInt 64 y).toNat
def shlV (x y : Int) : Int := IntKind.i64.wrap (x * 2 ^ (min y.toNat 64))
def shrV (x y : Int) : Int := x.fdiv (2 ^ (min y.toNat 64))
/-- whether a bit of a number is 1, as the code says it -/
def bitB (n k : Int) : Bool := andV (shrV n k) 1 == 1

theorem X.andI {P : Program} {W : World} {t : TypeId} (_hu : P.underlying t = some (.int .i64)) {x y : Operand} {p q z : Int} (hz : andV p q = z) : (do eqGuard .and t x y (.int .i64 p) (.int .i64 q); binOp .and t (.int .i64 p) (.int .i64 q) : Sem Value).run P W = .ok (.int .i64 z) W := by
  subst hz; simp [eqGuard, binOp, Op.intBits, go_sem]; rfl
theorem X.orI {P : Program} {W : World} {t : TypeId} (_hu : P.underlying t = some (.int .i64)) {x y : Operand} {p q z : Int} (hz : orV p q = z) : (do eqGuard .or t x y (.int .i64 p) (.int .i64 q); binOp .or t (.int .i64 p) (.int .i64 q) : Sem Value).run P W = .ok (.int .i64 z) W := by
  subst hz; simp [eqGuard, binOp, Op.intBits, go_sem]; rfl
theorem X.andNotI {P : Program} {W : World} {t : TypeId} (_hu : P.underlying t = some (.int .i64)) {x y : Operand} {p q z : Int} (hz : anotV p q = z) : (do eqGuard .andNot t x y (.int .i64 p) (.int .i64 q); binOp .andNot t (.int .i64 p) (.int .i64 q) : Sem Value).run P W = .ok (.int .i64 z) W := by
  subst hz; simp [eqGuard, binOp, Op.intBits, go_sem]; rfl
theorem X.shlI {P : Program} {W : World} {t : TypeId} {k : IntKind} (_hu : P.underlying t = some (.int .i64)) {x y : Operand} {p q z : Int} (hz : shlV p q = z) (h0 : 0 ≤ q) : (do eqGuard .shl t x y (.int .i64 p) (.int k q); binOp .shl t (.int .i64 p) (.int k q) : Sem Value).run P W = .ok (.int .i64 z) W := by
  have h : ¬ q < 0 := by omega
  subst hz; simp [eqGuard, binOp, Op.shift, go_sem, h, shlV, IntKind.bits]
theorem X.shrI {P : Program} {W : World} {t : TypeId} {k : IntKind} (_hu : P.underlying t = some (.int .i64)) {x y : Operand} {p q z : Int} (hz : shrV p q = z) (h0 : 0 ≤ q) : (do eqGuard .shr t x y (.int .i64 p) (.int k q); binOp .shr t (.int .i64 p) (.int k q) : Sem Value).run P W = .ok (.int .i64 z) W := by
  have h : ¬ q < 0 := by omega
  subst hz; simp [eqGuard, binOp, Op.shift, go_sem, h, shrV, IntKind.bits]
theorem X.remI {P : Program} {W : World} {t : TypeId} (_hu : P.underlying t = some (.int .i64)) {x y : Operand} {p q z : Int} (hz : p % q = z) (h0 : 0 ≤ p ∧ p ≤ 9223372036854775807) (h1 : 0 < q) : (do eqGuard .rem t x y (.int .i64 p) (.int .i64 q); binOp .rem t (.int .i64 p) (.int .i64 q) : Sem Value).run P W = .ok (.int .i64 z) W := by
  have hd : p.tmod q = p % q := Int.tmod_eq_emod_of_nonneg h0.1
  have h2 : 0 ≤ p % q := Int.emod_nonneg _ (by omega)
  have h3 : p % q ≤ p := by
    have := Int.emod_add_mul_ediv p q
    have h4 : 0 ≤ p / q := Int.ediv_nonneg h0.1 (by omega)
    have h5 : 0 ≤ q * (p / q) := Int.mul_nonneg (by omega) h4
    omega
  have hne : ¬ q = 0 := by omega
  subst hz
  have hw := IntWalk.i64_in (p % q) ⟨by omega, by omega⟩
  simp [eqGuard, binOp, Op.intDiv, go_sem, hne, hd, hw]

theorem wr64_small {n : Nat} (h : n < 9223372036854775808) : wr64 n = (n : Int) := by
  have e : (n : Int) % 2 ^ 64 = n := Int.emod_eq_of_lt (by omega) (by omega)
  simp only [wr64, IntKind.wrap, IntKind.bits, IntKind.signed, e]
  rw [if_neg]
  simp
  omega
theorem bv_nat {n : Nat} (h : n < 9223372036854775808) : (BitVec.ofInt 64 (n : Int)).toNat = n := by
  rw [BitVec.toNat_ofInt]
  have e : ((n : Int) % ((2 ^ 64 : Nat) : Int)) = n := Int.emod_eq_of_lt (by omega) (by omega)
  rw [e]; simp
theorem and_nat {a b : Nat} (ha : a < 9223372036854775808) (hb : b < 9223372036854775808) : andV a b = ((a &&& b : Nat) : Int) := by
  unfold andV
  rw [BitVec.toNat_and, bv_nat ha, bv_nat hb]
  exact wr64_small (Nat.lt_of_le_of_lt Nat.and_le_left ha)
theorem or_nat {a b : Nat} (ha : a < 9223372036854775808) (hb : b < 9223372036854775808) : orV a b = ((a ||| b : Nat) : Int) := by
  unfold orV
  rw [BitVec.toNat_or, bv_nat ha, bv_nat hb]
  exact wr64_small (Nat.or_lt_two_pow (n := 63) ha hb)
theorem anot_nat {a b : Nat} (ha : a < 9223372036854775808) (hb : b < 9223372036854775808) : ∃ c : Nat, anotV a b = (c : Int) ∧ c ≤ a ∧ ∀ i, c.testBit i = (a.testBit i && !b.testBit i) := by
  refine ⟨(BitVec.ofInt 64 (a : Int) &&& ~~~BitVec.ofInt 64 (b : Int)).toNat, ?_, ?_, fun i => ?_⟩
  · unfold anotV
    refine wr64_small ?_
    rw [BitVec.toNat_and, bv_nat ha]
    exact Nat.lt_of_le_of_lt Nat.and_le_left ha
  · rw [BitVec.toNat_and, bv_nat ha]; exact Nat.and_le_left
  · by_cases h : i < 64
    · simp only [BitVec.testBit_toNat, BitVec.getLsbD_and, BitVec.getLsbD_not, h, decide_true, Bool.true_and]
      rw [← BitVec.testBit_toNat, ← BitVec.testBit_toNat, bv_nat ha, bv_nat hb]
    · have h1 : a.testBit i = false := Nat.testBit_lt_two_pow (Nat.lt_of_lt_of_le ha (Nat.le_trans (by decide : 9223372036854775808 ≤ 2 ^ 64) (Nat.pow_le_pow_right (by decide) (by omega))))
      rw [h1, BitVec.toNat_and, bv_nat ha, Nat.testBit_and, h1]; simp
theorem shl_nat {k : Nat} (hk : k < 63) : shlV 1 k = ((2 ^ k : Nat) : Int) := by
  unfold shlV
  have h1 : min (k : Int).toNat 64 = k := by omega
  rw [h1, Int.one_mul]
  have h2 : (2 : Nat) ^ k < 9223372036854775808 := Nat.pow_lt_pow_right (by decide) hk
  have := wr64_small h2
  unfold wr64 at this
  rw [← this]
  congr 1
theorem shr_nat {a k : Nat} (ha : a < 9223372036854775808) : shrV a k = ((a >>> k : Nat) : Int) := by
  unfold shrV
  by_cases h : k ≤ 64
  · have h1 : min (k : Int).toNat 64 = k := by omega
    rw [h1, Nat.shiftRight_eq_div_pow]
    have : ((a : Int).fdiv (2 ^ k)) = (a : Int) / 2 ^ k := Int.fdiv_eq_ediv_of_nonneg _ (Int.pow_nonneg (by decide))
    rw [this]; simp
  · have h1 : min (k : Int).toNat 64 = 64 := by omega
    rw [h1, Nat.shiftRight_eq_div_pow]
    have h2 : a / 2 ^ k = 0 := Nat.div_eq_of_lt (Nat.lt_of_lt_of_le ha (Nat.le_trans (by decide : 9223372036854775808 ≤ 2 ^ 64) (Nat.pow_le_pow_right (by decide) (by omega))))
    rw [h2]
    have : ((a : Int).fdiv (2 ^ 64)) = (a : Int) / 2 ^ 64 := Int.fdiv_eq_ediv_of_nonneg _ (Int.pow_nonneg (by decide))
    rw [this]; omega
theorem bit_nat {a k : Nat} (ha : a < 9223372036854775808) : bitB a k = a.testBit k := by
  unfold bitB
  rw [shr_nat ha, show (1 : Int) = ((1 : Nat) : Int) from rfl, and_nat (Nat.lt_of_le_of_lt (Nat.shiftRight_le a k) ha) (by decide), Nat.testBit]
  rw [Nat.and_comm]
  have h := Nat.and_two_pow_sub_one_eq_mod (a >>> k) 1
  have h2 : 1 &&& a >>> k < 2 := Nat.lt_of_le_of_lt Nat.and_le_left (by decide)
  have h3 : 1 &&& a >>> k = 0 ∨ 1 &&& a >>> k = 1 := by omega
  rcases h3 with h | h <;> rw [h] <;> decide

/-- a row of structures: k numbers each -/
def StAt (w : World) (k : Nat) (a : Option Addr) (n : Nat) (L : List (List Int)) : Prop :=
  L.length = n ∧ n * k * 8 ≤ 140737488351232 ∧ ∀ j, j < n → ∃ ad, a = some ad ∧ ad.block < w.heap.size ∧ (L[j]?.getD []).length = k ∧ ∀ r, r < k → w.cell? ((ad.add (j * k)).add r) = some (.int .i64 ((L[j]?.getD [])[r]?.getD 0))
theorem StAt.len {w : World} {k : Nat} {a : Option Addr} {n : Nat} {L : List (List Int)} (h : StAt w k a n L) : L.length = n := h.1
theorem StAt.lt {w : World} {k : Nat} {a : Option Addr} {n : Nat} {L : List (List Int)} (h : StAt w k a n L) : n * k * 8 ≤ 140737488351232 := h.2.1
theorem StAt.at {w : World} {k : Nat} {a : Option Addr} {n : Nat} {L : List (List Int)} (h : StAt w k a n L) {j : Nat} (hj : j < n) : ∃ ad, a = some ad ∧ ad.block < w.heap.size ∧ (L[j]?.getD []).length = k ∧ ∀ r, r < k → w.cell? ((ad.add (j * k)).add r) = some (.int .i64 ((L[j]?.getD [])[r]?.getD 0)) := h.2.2 j hj
theorem StAt.gr {w w' : World} {k : Nat} {a : Option Addr} {n : Nat} {L : List (List Int)} (h : StAt w k a n L) (g : Gr w w') : StAt w' k a n L :=
  ⟨h.1, h.2.1, fun j hj => by
    obtain ⟨ad, e, hb, hl, hc⟩ := h.2.2 j hj
    exact ⟨ad, e, Nat.lt_of_lt_of_le hb g.size, hl, fun r hr => (g.cell (by rw [add_block, add_block]; exact hb)).trans (hc r hr)⟩⟩
/-- the number at a place of a row -/
def cv (L : List (List Int)) (i r : Nat) : Int := (L[i]?.getD [])[r]?.getD 0

/-- a block, of which the first n cells hold these -/
def OwnP (W : World) (b n : Nat) (val : Nat → Value) : Prop := ∃ cs t, W.heap[b]? = some (.cells cs t (0, 0)) ∧ n ≤ cs.size ∧ ∀ k, k < n → cs[k]? = some (val k)
section
variable {W W' : World} {b n : Nat} {val : Nat → Value} {P : Program}
theorem OwnP.lt (h : OwnP W b n val) : b < W.heap.size := by
  obtain ⟨cs, t, h, _⟩ := h; exact (Array.getElem?_eq_some_iff.1 h).1
theorem OwnP.only {S : Nat → Prop} (h : OwnP W b n val) (g : Only S W W') (hs : ¬ S b) : OwnP W' b n val := by
  obtain ⟨cs, t, h1, h2, h3⟩ := h
  exact ⟨cs, t, (g.block b (Array.getElem?_eq_some_iff.1 h1).1 hs).trans h1, h2, h3⟩
theorem OwnP.gr (h : OwnP W b n val) (g : Gr W W') : OwnP W' b n val := h.only (g.only (fun _ => False)) (fun h => h)
theorem OwnP.cell (h : OwnP W b n val) {k : Nat} (hk : k < n) : W.cell? ⟨b, k, none⟩ = some (val k) := by
  obtain ⟨cs, t, h1, _, h3⟩ := h
  exact cell_at h1 (h3 k hk)
theorem OwnP.fz (h : OwnP W b n val) (k : Nat) : W.frozen? ⟨b, k, none⟩ = false := by
  obtain ⟨cs, t, h1, _⟩ := h
  unfold World.frozen?
  simp [h1]
theorem OwnP.set (h : OwnP W b n val) {k : Nat} (v : Value) : OwnP (W.setCell ⟨b, k, none⟩ v) b n (fun j => if j = k then v else val j) := by
  obtain ⟨cs, t, h1, h2, h3⟩ := h
  refine ⟨cs.setIfInBounds k v, t, heap_setCell_same W b k cs t v h1, by simpa using h2, fun j hj => ?_⟩
  show _ = some (if j = k then v else val j)
  by_cases e : j = k
  · subst e; rw [if_pos rfl, Array.getElem?_setIfInBounds_self_of_lt (by omega)]
  · rw [if_neg e, Array.getElem?_setIfInBounds_ne (Ne.symm e)]; exact h3 j hj
theorem OwnP.congr {val' : Nat → Value} (h : OwnP W b n val) (he : ∀ k, k < n → val k = val' k) : OwnP W b n val' := by
  obtain ⟨cs, t, h1, h2, h3⟩ := h
  exact ⟨cs, t, h1, h2, fun k hk => by rw [h3 k hk, he k hk]⟩
theorem OwnP.st1 {t : TypeId} {k : Nat} {v : Value} (h : OwnP W b n val) (hS : (sizeOf t).run P W = .ok 1 W) (hv : v.cells = #[v]) (hv1 : v.oneCell' = true) (hk : k < n) :
    (Instr.storeAt t (.pointer (some ⟨b, k, none⟩)) v).run P W = .ok () (W.setCell ⟨b, k, none⟩ v) := Y.st1 hS hv hv1 (h.cell hk) (h.fz k)
end
end
section
set_option linter.unusedVariables false
open Go.RowKit
theorem Only.step {S : Nat → Prop} {a b c : World} {r : Nat} (h : Only S a b) (k : Only (fun x => x = r) b c) (hr : S r ∨ a.heap.size ≤ r) : Only S a c :=
  ⟨k.os.trans h.os, k.tape.trans h.tape, k.output.trans h.output, Nat.le_trans h.size k.size, fun i hi hn => by
    have h1 := h.size
    refine (k.block i (by omega) (fun e => ?_)).trans (h.block i hi hn)
    subst e
    rcases hr with hr | hr
    · exact hn hr
    · omega⟩
theorem Only.step2 {S T : Nat → Prop} {a b c : World} (h : Only S a b) (k : Only T b c) (hr : ∀ r, T r → S r ∨ a.heap.size ≤ r) : Only S a c :=
  ⟨k.os.trans h.os, k.tape.trans h.tape, k.output.trans h.output, Nat.le_trans h.size k.size, fun i hi hn => by
    have h1 := h.size
    refine (k.block i (by omega) (fun e => ?_)).trans (h.block i hi hn)
    rcases hr i e with hr | hr
    · exact hn hr
    · omega⟩
theorem RCells.only {S : Nat → Prop} {w w' : World} {L : List (Addr × Value)} (h : RCells w L) (g : Only S w w') (hn : ∀ p ∈ L, ¬ S p.1.block) : RCells w' L := fun p hp => g.cell (h p hp) (hn p hp)
/-- **A RANGE OVER A FUNCTION.** D: the heap's size where the loop begins. -/
theorem range_rule3 {P : Program} {α : Type} {g : Operand} {ps : Array Tmp} {assign body : Code} {Q : Exit → Act → World → Prop} {a : Act} {w : World} {gf : Nat} {lb : Array Value}
    (hg : a.eval g = .func (.func gf) #[] lb) (eg : ∀ args w, (callFunc gf args).run P w = .ok (.enter gf args) w)
    (I : List α → World → Prop) (Ix : Code → World → Prop) (Y : Nat → Prop) (E : List α → α → Array Value → World → Prop) (S : List α → Prop) (Asg : α → Act → World → Prop) (B : List α → α → World → Prop)
    (hIg : ∀ xs W W', I xs W → Gr W W' → I xs W') (hAp : ∀ x A1 W o, Asg x A1 W → Asg x A1 (W.putObj (w.heap.size + 1) (.loop o))) (hEB : ∀ pre x args W, E pre x args W → B pre x W) (hBo : ∀ pre x W W', B pre x W → Only (fun b => w.heap.size ≤ b) W W' → B pre x W')
    (hY0 : ¬ Y w.heap.size) (hY1 : ¬ Y (w.heap.size + 1))
    (hI : ∀ xs W o, I xs W → I xs (W.putObj (w.heap.size + 1) (.loop o))) (hIx : ∀ c W o, Ix c W → Ix c (W.putObj (w.heap.size + 1) (.loop o)))
    (hEs : ∀ pre x args W, E pre x args W → args.size = ps.size) (hEp : ∀ pre x args W o, E pre x args W → E pre x args (W.putObj (w.heap.size + 1) (.loop o)))
    (h0 : I [] w) (hIa : ∀ xs W o, I xs W → I xs (W.alloc o))
    (hassign : ∀ (l : Nat) (pre : List α) (x : α) (args : Array Value) (W : World) (K : Act → World → Prop), w.heap.size + 1 < W.heap.size → E pre x args W → (∀ A1 W1, Gr W W1 → Asg x A1 W1 → K A1 W1) →
      assign.wpIn (Fence.wide.inRound l) 0 P (Exit.then K (fun _ _ _ => False)) { tmps := (ps.zip args).foldl (fun t (p, v) => t.setIfInBounds p v) a.tmps, defers := [] } W)
    (hbody : ∀ (pre : List α) (x : α) (W : World) (A1 : Act), I pre W → B pre x W → Asg x A1 W → w.heap.size + 1 < W.heap.size → body.wpIn (Fence.wide.inRound (w.heap.size + 1)) 0 P (roundQ Y I Ix (pre ++ [x]) W) A1 W)
    (hiter : ∀ (L : Loop), L.state = .ready → L.pending = none →
      (∀ pre x args W, Between w.heap.size L I pre W → E pre x args W → YieldAt Fence.wide 0 P (w.heap.size + 1) args W fun e W' =>
        (e = .returned (.bool true) ∧ Between w.heap.size L I (pre ++ [x]) W' ∧ Only Y W W') ∨ (e = .returned (.bool false) ∧ Left w.heap.size L Ix W')) →
      Between w.heap.size L I [] ((w.alloc (.deferred (some []))).alloc (.loop L)) →
      CallsIn Fence.wide 0 P gf (#[.func (.yield (w.heap.size + 1)) #[] #[]] ++ lb) ((w.alloc (.deferred (some []))).alloc (.loop L)) fun e W' =>
        (∃ v, e = .returned v) ∧ ((∃ xs, S xs ∧ Between w.heap.size L I xs W') ∨ Left w.heap.size L Ix W'))
    (hdone : ∀ (xs : List α) (W : World), S xs → I xs W → W.heap[w.heap.size]? = some (.deferred (some [])) → Q .normal { a with defers := { target := .collected w.heap.size, args := #[] } :: a.defers } W)
    (hstop : ∀ (c : Code) (W : World), Ix c W → W.heap[w.heap.size]? = some (.deferred (some [])) → c.wpIn Fence.wide 0 P Q { a with defers := { target := .collected w.heap.size, args := #[] } :: a.defers } W) :
    (Code.rangeFunc g ps assign body).wp P Q a w := by
  refine (wpIn_wide (n := 0)).1 ?_
  refine wpIn_rangeFunc ?_
  intro fn hfn
  obtain ⟨L, hL⟩ : ∃ L : Loop, L = { state := .ready, pending := none, fn, tmps := a.tmps, params := ps, assign, body, defers := w.heap.size } := ⟨_, rfl⟩
  obtain ⟨W1, hW1⟩ : ∃ W1, (w.alloc (.deferred (some []))).alloc (.loop L) = W1 := ⟨_, rfl⟩
  have hL1 : W1.heap[w.heap.size + 1]? = some (.loop L) := by
    rw [← hW1]; have := World.alloc_heap_new (w.alloc (.deferred (some []))) (.loop L); rwa [World.size_alloc] at this
  have hK1 : W1.heap[w.heap.size]? = some (.deferred (some [])) := by
    rw [← hW1]; exact (Below.heap_alloc _ _ _ (by simp)).trans (World.alloc_heap_new w _)
  have hI1 : I [] W1 := by rw [← hW1]; exact hIa _ _ _ (hIa _ _ _ h0)
  refine ⟨w.heap.size + 1, [{ target := .collected w.heap.size, args := #[] }], W1, { target := .fn (.func gf) lb, args := #[.func (.yield (w.heap.size + 1)) #[] #[]] }, W1, gf,
    #[.func (.yield (w.heap.size + 1)) #[] #[]] ++ lb, W1, ?_, ?_, fun _ _ => trivial, ?_, fun h => by simp [Fence.wide] at h, ?_⟩
  · rw [← hW1, hL]; exact run_enterLoop_outer _ _ _ _ _
  · simp only [resolve, hg]
    simp [go_sem]
  · simp [invoke, go_sem, eg]
  · have hit := hiter L (by rw [hL]) (by rw [hL])
    rw [hW1] at hit
    refine (hit ?_ ⟨hI1, hL1, hK1⟩).mono ?_
    · rintro pre x args W ⟨hi, hl, hk⟩ hE
      have hlt : w.heap.size + 1 < W.heap.size := (Array.getElem?_eq_some_iff.1 hl).1
      have hy := run_yield (P := P) (args := args) hl (by rw [hL]; exact hEs pre x args W hE)
      rw [hL] at hy
      refine ⟨fn, _, assign, body, hy, roundIn_of_wpIn (F := Fence.wide) trivial (hassign _ pre x args W _ hlt hE (fun A1 W1 g1 hAsg => ?_))⟩
      have hl1 : W1.heap[w.heap.size + 1]? = some (.loop L) := (g1.below.block _ hlt).trans hl
      have hlt1 : w.heap.size + 1 < W1.heap.size := Nat.lt_of_lt_of_le hlt g1.size
      have hk1 : W1.heap[w.heap.size]? = some (.deferred (some [])) := (g1.below.block _ (by omega)).trans hk
      have hi1 : I pre W1 := hIg _ _ _ hi g1
      have hB1 : B pre x W1 := hBo _ _ _ _ (hEB _ _ _ _ hE) (g1.only _)
      refine ⟨_, run_beginRound hl1 (by rw [hL]), ?_⟩
      have hl2 : (W1.putObj (w.heap.size + 1) (.loop { L with state := .busy })).heap[w.heap.size + 1]? = some (.loop { L with state := .busy }) := World.putObj_heap_same hlt1
      have hk2 : (W1.putObj (w.heap.size + 1) (.loop { L with state := .busy })).heap[w.heap.size]? = some (.deferred (some [])) := (World.putObj_heap_other (by omega)).trans hk1
      have hsz2 : (W1.putObj (w.heap.size + 1) (.loop { L with state := .busy })).heap.size = W1.heap.size := by simp
      refine wpIn_mono (hbody pre x _ A1 (hI _ _ _ hi1) (hBo _ _ _ _ hB1 ((putObj_only _ _ _).mono' (fun i e => by omega))) (hAp _ _ _ _ hAsg) (by rw [hsz2]; exact hlt1)) ?_
      have hrest : ∀ (W3 : World) (o : Loop), Only Y (W1.putObj (w.heap.size + 1) (.loop { L with state := .busy })) W3 → (W3.putObj (w.heap.size + 1) (.loop o)).heap[w.heap.size]? = some (.deferred (some [])) := fun W3 o ho =>
        (World.putObj_heap_other (by omega)).trans ((ho.block _ (by rw [hsz2]; omega) hY0).trans hk2)
      have hl3 : ∀ (W3 : World), Only Y (W1.putObj (w.heap.size + 1) (.loop { L with state := .busy })) W3 → W3.heap[w.heap.size + 1]? = some (.loop { L with state := .busy }) := fun W3 ho =>
        (ho.block _ (by rw [hsz2]; omega) hY1).trans hl2
      rintro e a3 W3 hp
      cases e with
      | normal =>
        obtain ⟨ho, hi3⟩ := hp
        have hl4 := hl3 W3 ho
        have hlt4 : w.heap.size + 1 < W3.heap.size := (Array.getElem?_eq_some_iff.1 hl4).1
        have hrun := run_endRound (P := P) none hl4
        have hLL : ({ ({ L with state := .busy } : Loop) with state := if (none : Option Code).isNone then .ready else .done, pending := none } : Loop) = L := by rw [hL]; rfl
        rw [hLL] at hrun
        refine ⟨_, _, hrun, .inl ⟨rfl, ⟨hI _ _ _ hi3, World.putObj_heap_same hlt4, hrest W3 L ho⟩, ?_⟩⟩
        refine (g1.only Y).trans ⟨ho.os, ho.tape, ho.output, by have := ho.size; simp at this ⊢; exact this, fun b hb hn => ?_⟩
        by_cases e : b = w.heap.size + 1
        · subst e; rw [World.putObj_heap_same hlt4, hl1]
        · rw [World.putObj_heap_other e, ho.block b (by rw [hsz2]; exact hb) hn, World.putObj_heap_other e]
      | ret =>
        obtain ⟨ho, hi3⟩ := hp
        have hl4 := hl3 W3 ho
        have hlt4 : w.heap.size + 1 < W3.heap.size := (Array.getElem?_eq_some_iff.1 hl4).1
        have hrun := run_endRound (P := P) (some .ret) hl4
        exact ⟨_, _, hrun, .inr ⟨rfl, .ret, hIx _ _ _ hi3, World.putObj_heap_same hlt4, hrest W3 _ ho⟩⟩
      | exit id =>
        obtain ⟨ho, hi3⟩ := hp
        have hl4 := hl3 W3 ho
        have hlt4 : w.heap.size + 1 < W3.heap.size := (Array.getElem?_eq_some_iff.1 hl4).1
        have hrun := run_endRound (P := P) (some (.exit id)) hl4
        exact ⟨_, _, hrun, .inr ⟨rfl, .exit id, hIx _ _ _ hi3, World.putObj_heap_same hlt4, hrest W3 _ ho⟩⟩
      | goto t => exact hp.elim
      | panic ch => exact hp.elim
      | outgrown => exact hp.elim
    · rintro e W2 ⟨⟨v, rfl⟩, (⟨xs, hS, hi, hl, hk⟩ | ⟨c, hi, hl, hk⟩)⟩
      · refine ⟨L.pending, _, run_endLoop (P := P) hl (by rw [hL]; simp), ?_⟩
        have : L.pending = none := by rw [hL]
        rw [this]
        exact hdone xs _ hS (hI _ _ _ hi) ((World.putObj_heap_other (by omega)).trans hk)
      · refine ⟨some c, _, run_endLoop (P := P) hl (by simp), ?_⟩
        exact hstop c _ (hIx _ _ _ hi) ((World.putObj_heap_other (by omega)).trans hk)
end
end Go.Proofs.Ytoalamakhjbedaa
