/- A rule for a region that draws its order: each operation is looked at once, in whatever world and frame its forerunners have left; no order is named. Nothing of the program is proved here. -/
import Derived.OrdersIn
import Derived.Below
import Derived.RangeFuncIn
namespace Go.Proofs.Ytlilojpnhmfnaaa
set_option linter.unusedVariables false
open Go.RowKit

/-- the frame with the values u in the slots that the operations write -/
def fillL (u : Nat → Value) : List Oper → Nat → Array Value → Array Value
  | [], _, t => t
  | o :: r, k, t => fillL u r (k + 1) (match o.dst with | some d => t.setIfInBounds d (u k) | none => t)

def dstsOf (l : List Oper) : List Tmp := l.filterMap (·.dst)

/-- p holds of each operation with its number -/
def AllIdx (p : Nat → Oper → Prop) : List Oper → Nat → Prop
  | [], _ => True
  | o :: r, k => p k o ∧ AllIdx p r (k + 1)

theorem AllIdx.at {p : Nat → Oper → Prop} : ∀ {l : List Oper} {k : Nat}, AllIdx p l k → ∀ i o, l[i]? = some o → p (k + i) o := by
  intro l
  induction l with
  | nil => intro k _ i o h; simp at h
  | cons x r ih =>
    intro k h i o hi
    cases i with
    | zero => simp at hi; subst hi; exact h.1
    | succ i =>
      have := ih h.2 i o (by simpa using hi)
      rw [show k + (i + 1) = k + 1 + i by omega]; exact this

/-- the direct forerunners of an operation -/
def fore (o : Oper) : List Nat := (o.after.toList.filter (Region.binds .any)).map (·.on)
/-- all forerunners: closed under fore, by n rounds -/
def anc (l : List Oper) : Nat → List Nat → List Nat
  | 0, s => s
  | n + 1, s => anc l n (s ++ s.flatMap fun j => match l[j]? with | some o => fore o | none => []).eraseDups

def upd (done : Nat → Bool) (i : Nat) : Nat → Bool := fun j => if j = i then true else done j

theorem fillL_size (u : Nat → Value) : ∀ (l : List Oper) (k : Nat) (t : Array Value), (fillL u l k t).size = t.size := by
  intro l
  induction l with
  | nil => intro k t; rfl
  | cons o r ih =>
    intro k t
    simp only [fillL, ih]
    split <;> simp

theorem fillL_set_comm (u : Nat → Value) : ∀ (l : List Oper) (k : Nat) (t : Array Value) (d : Nat) (v : Value), d ∉ dstsOf l → (fillL u l k t).setIfInBounds d v = fillL u l k (t.setIfInBounds d v) := by
  intro l
  induction l with
  | nil => intro k t d v _; rfl
  | cons o r ih =>
    intro k t d v hd
    simp only [fillL]
    cases ho : o.dst with
    | none =>
      have hd' : d ∉ dstsOf r := by simpa [dstsOf, List.filterMap_cons, ho] using hd
      exact ih (k + 1) t d v hd'
    | some e =>
      have hd' : d ≠ e ∧ d ∉ dstsOf r := by simpa [dstsOf, List.filterMap_cons, ho] using hd
      rw [ih (k + 1) _ d v hd'.2, Array.setIfInBounds_comm _ _ (Ne.symm hd'.1)]

theorem fillL_congr {u u' : Nat → Value} : ∀ (l : List Oper) (k : Nat) (t : Array Value), (∀ i, k ≤ i → i < k + l.length → u i = u' i) → fillL u l k t = fillL u' l k t := by
  intro l
  induction l with
  | nil => intro k t _; rfl
  | cons o r ih =>
    intro k t h
    simp only [fillL]
    have h0 : u k = u' k := h k (Nat.le_refl _) (by simp)
    rw [h0]
    exact ih (k + 1) _ (fun i h1 h2 => h i (by omega) (by simp at h2 ⊢; omega))

theorem fillL_put (u : Nat → Value) (v : Value) : ∀ (l : List Oper) (k i : Nat) (t : Array Value) (o : Oper) (d : Nat), (dstsOf l).Nodup → l[i]? = some o → o.dst = some d →
    (fillL u l k t).setIfInBounds d v = fillL (fun j => if j = k + i then v else u j) l k t := by
  intro l
  induction l with
  | nil => intro k i t o d _ h; simp at h
  | cons x r ih =>
    intro k i t o d hn hi hd
    cases i with
    | zero =>
      simp at hi
      subst hi
      have hnr : d ∉ dstsOf r := by
        have : (d :: dstsOf r).Nodup := by simpa [dstsOf, List.filterMap_cons, hd] using hn
        exact (List.nodup_cons.1 this).1
      simp only [fillL, hd, Nat.add_zero]
      rw [fillL_set_comm u r (k + 1) _ d v hnr, Array.setIfInBounds_setIfInBounds]
      simp only [if_true]
      exact fillL_congr r (k + 1) _ (fun j h1 _ => by rw [if_neg (by omega)])
    | succ i =>
      have hnr : (dstsOf r).Nodup := by
        cases hx : x.dst with
        | none => simpa [dstsOf, List.filterMap_cons, hx] using hn
        | some e =>
          have : (e :: dstsOf r).Nodup := by simpa [dstsOf, List.filterMap_cons, hx] using hn
          exact (List.nodup_cons.1 this).2
      have hi' : r[i]? = some o := by simpa using hi
      have := ih (k + 1) i (match x.dst with | some d => t.setIfInBounds d (u k) | none => t) o d hnr hi' hd
      simp only [fillL]
      rw [this]
      have e1 : k + 1 + i = k + (i + 1) := by omega
      rw [e1]
      have e2 : (if k = k + (i + 1) then v else u k) = u k := by rw [if_neg (by omega)]
      rw [e2]

theorem fillL_self (t : Array Value) : ∀ (l : List Oper) (k : Nat) (u : Nat → Value), (∀ i o d, l[i]? = some o → o.dst = some d → d < t.size → u (k + i) = t.getD d undef) → fillL u l k t = t := by
  intro l
  induction l with
  | nil => intro k u _; rfl
  | cons x r ih =>
    intro k u h
    simp only [fillL]
    have hx : (match x.dst with | some d => t.setIfInBounds d (u k) | none => t) = t := by
      cases hd : x.dst with
      | none => rfl
      | some d =>
        simp only
        by_cases hlt : d < t.size
        · have := h 0 x d (by simp) hd hlt
          simp only [Nat.add_zero] at this
          rw [this]
          apply Array.ext
          · simp
          · intro i h1 h2
            rw [Array.getElem_setIfInBounds (by simpa using h2)]
            split
            · subst_vars; simp
            · rfl
        · simp [Array.setIfInBounds, hlt]
    rw [hx]
    exact ih (k + 1) u (fun i o d hi hd hlt => by
      have := h (i + 1) o d (by simpa using hi) hd hlt
      rw [show k + 1 + i = k + (i + 1) by omega]; exact this)

/-- An operation that is no defer statement, walked as everywhere, is walked within a round, too. -/
theorem wpIn_of_wp {P : Program} {o : Oper} {a : Act} {w : World} {K : Act → World → Prop} {Q : Exit → Act → World → Prop} {ro : Option Nat} {n : Nat} (hd : ∀ c, o.op ≠ .defer c)
    (h : o.wp P a w K Q) : o.wpIn { Fence.wide with round := ro } n P a w K Q := by
  refine ⟨fun _ _ => trivial, ?_⟩
  rw [Oper.semAt_eq ro a.eval o hd]
  unfold Oper.wp at h
  generalize (execOp a.eval o).run P w = r at *
  cases r with
  | ok x w' =>
    cases x <;> simp only [Oper.upon, Oper.uponIn] at h ⊢ <;> first | exact h | skip
    · exact ⟨fun h => by simp [Fence.wide] at h, (callsIn_wide (n := n - 1)).2 h⟩
    · exact ⟨fun h => by simp [Fence.wide] at h, fun c cs _ => let ⟨v, w2, r, s⟩ := h c cs; ⟨v, w2, r, stepsIn_wide.2 s⟩⟩
  | halt x w' => cases x <;> simp only [Oper.upon, Oper.uponIn] at h ⊢ <;> exact h

/-- the forerunners of operation i have run -/
def Fore (l : List Oper) (Φ : Nat → Value → World → Prop) (u : Nat → Value) (W : World) (i : Nat) (o : Oper) : Prop := ∀ j, j ∈ anc l l.length (fore o) → Φ j (u j) W

theorem Fore.at {l : List Oper} {Φ : Nat → Value → World → Prop} {u : Nat → Value} {W : World} {i : Nat} {o : Oper} (h : Fore l Φ u W i o) (j : Nat) (hj : (anc l l.length (fore o)).contains j = true) : Φ j (u j) W :=
  h j (by simpa using hj)

theorem anc_closed {l : List Oper} {done : Nat → Bool} (hc : ∀ j o, l[j]? = some o → done j = true → ∀ k ∈ fore o, done k = true) : ∀ (n : Nat) (s : List Nat), (∀ j ∈ s, done j = true) → ∀ j ∈ anc l n s, done j = true := by
  intro n
  induction n with
  | zero => intro s hs j hj; exact hs j hj
  | succ n ih =>
    intro s hs j hj
    simp only [anc] at hj
    refine ih _ (fun k hk => ?_) j hj
    simp only [List.mem_eraseDups, List.mem_append, List.mem_flatMap] at hk
    rcases hk with hk | ⟨m, hm, hk⟩
    · exact hs k hk
    · cases ho : l[m]? with
      | none => rw [ho] at hk; simp at hk
      | some o => rw [ho] at hk; exact hc m o ho (hs m hm) k hk

theorem fillL_none (u : Nat → Value) (v : Value) : ∀ (l : List Oper) (k i : Nat) (t : Array Value) (o : Oper), l[i]? = some o → o.dst = none →
    fillL u l k t = fillL (fun j => if j = k + i then v else u j) l k t := by
  intro l
  induction l with
  | nil => intro k i t o h; simp at h
  | cons x r ih =>
    intro k i t o hi hd
    cases i with
    | zero =>
      simp at hi
      subst hi
      simp only [fillL, hd, Nat.add_zero]
      exact fillL_congr r (k + 1) _ (fun j h1 _ => by rw [if_neg (by omega)])
    | succ i =>
      have hi' : r[i]? = some o := by simpa using hi
      simp only [fillL]
      have e2 : (if k = k + (i + 1) then v else u k) = u k := by rw [if_neg (by omega)]
      rw [e2, ih (k + 1) i _ o hi' hd]
      have e1 : k + 1 + i = k + (i + 1) := by omega
      rw [e1]

theorem countP_lt {p q : Nat → Bool} (hpq : ∀ j, q j = true → p j = true) {i : Nat} (hp : p i = true) (hq : q i = false) : ∀ {l : List Nat}, i ∈ l → l.countP q < l.countP p := by
  intro l
  induction l with
  | nil => intro h; simp at h
  | cons x r ih =>
    intro h
    have hle : r.countP q ≤ r.countP p := List.countP_mono_left (fun j _ => hpq j)
    rcases List.mem_cons.1 h with e | e
    · subst e
      simp only [List.countP_cons, hp, hq]
      simp; omega
    · have := ih e
      simp only [List.countP_cons]
      cases hx : q x with
      | true => simp [hpq x hx]; omega
      | false => simp; split <;> omega
theorem countP_upd (N : Nat) (done : Nat → Bool) (i : Nat) (hi : i < N) (hd : done i = false) : (List.range N).countP (fun j => !upd done i j) < (List.range N).countP (fun j => !done j) := by
  refine countP_lt (i := i) (fun j hj => ?_) (by simp [hd]) (by simp [upd]) (List.mem_range.2 hi)
  unfold upd at hj
  by_cases e : j = i
  · subst e; simp at hj
  · simpa [e] using hj

theorem hlt_anc (l : List Oper) (hfore : ∀ i o, l[i]? = some o → ∀ k ∈ fore o, k < i) (i : Nat) (o : Oper) (ho : l[i]? = some o) : ∀ j ∈ anc l l.length (fore o), j < i := by
  have h : ∀ (n : Nat) (s : List Nat), (∀ j ∈ s, j < i) → ∀ j ∈ anc l n s, j < i := by
    intro n
    induction n with
    | zero => intro s hs j hj; exact hs j hj
    | succ n ih =>
      intro s hs j hj
      simp only [anc] at hj
      refine ih _ (fun k hk => ?_) j hj
      simp only [List.mem_eraseDups, List.mem_append, List.mem_flatMap] at hk
      rcases hk with hk | ⟨m, hm, hk⟩
      · exact hs k hk
      · have hmi := hs m hm
        cases hx : l[m]? with
        | none => rw [hx] at hk; simp at hk
        | some x => rw [hx] at hk; have := hfore m x hx k hk; omega
  exact h _ _ (hfore i o ho)

/-- **A REGION THAT DRAWS ITS ORDER.** R done W: what holds of the world when the operations done have run · Φ i v W: what operation i's value is good for, stable under G · each operation is walked once. -/
theorem region_any {F : Fence} {n : Nat} {P : Program} {id : Nat} {l : List Oper} {Q : Exit → Act → World → Prop} {a : Act} {w : World} (hm : P.follows .mixedOrders = true)
    (hdag : (l.zipIdx.all fun (o, i) => (fore o).all (· < i)) = true) (hnd : (dstsOf l).Nodup) (hwide : ∀ f, F.fn f)
    (Φ : Nat → Value → World → Prop) (G : World → World → Prop) (hGr : ∀ W, G W W) (hst : ∀ i v W W', Φ i v W → G W W' → Φ i v W')
    (R : (Nat → Bool) → World → Prop) (h0 : R (fun _ => false) w.drew)
    (hstep : AllIdx (fun i o => ∀ (u : Nat → Value) (done : Nat → Bool) (W : World), done i = false → (∀ j ∈ anc l l.length (fore o), done j = true) → R done W → Fore l Φ u W i o →
      if Region.wanted o (yielded l.toArray (fillL u l 0 a.tmps)) then o.wpIn F n P { a with tmps := fillL u l 0 a.tmps } W (fun a' W' => ∃ v, a' = ({ a with tmps := fillL u l 0 a.tmps } : Act).put o.dst v ∧ Φ i v W' ∧ R (upd done i) W' ∧ G W W') Q
      else Φ i undef W ∧ R (upd done i) W) l 0)
    (hfin : ∀ (u : Nat → Value) (W : World), (∃ done, (∀ i, i < l.length → done i = true) ∧ R done W) → (∀ i, i < l.length → Φ i (u i) W) → Q .normal { a with tmps := fillL u l 0 a.tmps } W) :
    (Code.region id l.toArray true).wpIn F n P Q a w := by
  refine wpIn_region_any hm ?_
  have hfore : ∀ i o, l[i]? = some o → ∀ k ∈ fore o, k < i := by
    intro i o hi k hk
    rw [List.all_eq_true] at hdag
    have hmem : (o, i) ∈ l.zipIdx := by
      rw [List.mem_zipIdx_iff_getElem?]; exact hi
    have := hdag (o, i) hmem
    simp only [List.all_eq_true, decide_eq_true_eq] at this
    exact this k hk
  have hready : ∀ (listed : Array Bool) (done : Nat → Bool), listed.size = l.length → (∀ i, i < l.length → listed.getD i true = done i) → ∀ i o, l[i]? = some o →
      (i ∈ Region.ready .any l.toArray listed ↔ done i = false ∧ ∀ k ∈ fore o, done k = true) := by
    intro listed done hsz hl i o hi
    have hlt : i < l.length := (List.getElem?_eq_some_iff.1 hi).1
    have hget : ∀ k, k < l.length → listed.getD k false = done k := by
      intro k hk
      rw [← hl k hk]
      simp [Array.getD_eq_getD_getElem?, hsz, hk]
    simp only [Region.ready, List.mem_filter, List.mem_range, List.size_toArray, hlt, true_and, Bool.and_eq_true, Bool.not_eq_true', hl i hlt, List.getElem?_toArray, hi, Option.map_some, Option.getD_some]
    refine and_congr_right fun _ => ?_
    rw [Array.all_eq_true']
    constructor
    · intro h k hk
      have hki := hfore i o hi k hk
      simp only [fore, List.mem_map, List.mem_filter] at hk
      obtain ⟨e, ⟨he, hb⟩, rfl⟩ := hk
      have := h e (by simpa using he)
      simp only [hb, Bool.not_true, Bool.false_or] at this
      rw [← hget e.on (by omega)]
      exact this
    · intro h e he
      cases hb : Region.binds .any e with
      | false => simp
      | true =>
        have hk : e.on ∈ fore o := by simp only [fore, List.mem_map, List.mem_filter]; exact ⟨e, ⟨by simpa using he, hb⟩, rfl⟩
        have hd := h e.on hk
        have hek := hfore i o hi e.on hk
        rw [← hget e.on (by omega)] at hd
        simp only [Bool.not_true, Bool.false_or]
        exact hd
  have hmem : ∀ (listed : Array Bool) i, i ∈ Region.ready .any l.toArray listed → i < l.length := by
    intro listed i hi
    simp only [Region.ready, List.mem_filter, List.mem_range, List.size_toArray] at hi
    exact hi.1
  have hall : ∀ (listed : Array Bool) (done : Nat → Bool), listed.size = l.length → (∀ i, i < l.length → listed.getD i true = done i) → Region.ready .any l.toArray listed = [] → ∀ i, i < l.length → done i = true := by
    intro listed done hsz hl hr i
    induction i using Nat.strongRecOn with
    | _ i ih =>
      intro hi
      cases hd : done i with
      | true => rfl
      | false =>
        have ho : l[i]? = some l[i] := List.getElem?_eq_getElem hi
        have := (hready listed done hsz hl i _ ho).2 ⟨hd, fun k hk => by
          have hki := hfore i _ ho k hk
          exact ih k hki (by omega)⟩
        rw [hr] at this
        simp at this
  have main : ∀ (fuel : Nat) (listed : Array Bool) (u : Nat → Value) (done : Nat → Bool) (W : World), listed.size = l.length → (∀ i, i < l.length → listed.getD i true = done i) →
      (List.range l.length).countP (fun j => !done j) ≤ fuel → (∀ j o, l[j]? = some o → done j = true → ∀ k ∈ fore o, done k = true) → R done W → (∀ i, i < l.length → done i = true → Φ i (u i) W) →
      wpAnyIn F n P .any l.toArray Q fuel listed { a with tmps := fillL u l 0 a.tmps } W := by
    intro fuel
    induction fuel with
    | zero =>
      intro listed u done W hsz hl hc hcl hR hΦ
      have hd : ∀ i, i < l.length → done i = true := by
        intro i hi
        have h0 : (List.range l.length).countP (fun j => !done j) = 0 := by omega
        rw [List.countP_eq_zero] at h0
        have := h0 i (List.mem_range.2 hi)
        simpa using this
      refine ⟨?_, hfin u W ⟨done, hd, hR⟩ (fun i hi => hΦ i hi (hd i hi))⟩
      rw [List.eq_nil_iff_forall_not_mem]
      intro i hi
      have hlt := hmem listed i hi
      have ho : l[i]? = some l[i] := List.getElem?_eq_getElem hlt
      have := ((hready listed done hsz hl i _ ho).1 hi).1
      rw [hd i hlt] at this
      cases this
    | succ fuel ih =>
      intro listed u done W hsz hl hc hcl hR hΦ
      refine ⟨fun hr => ?_, fun i hi => ?_⟩
      · have hd := hall listed done hsz hl hr
        exact hfin u W ⟨done, hd, hR⟩ (fun i hi => hΦ i hi (hd i hi))
      · have hlt := hmem listed i hi
        have ho : l[i]? = some l[i] := List.getElem?_eq_getElem hlt
        generalize hoo : l[i] = o at ho
        obtain ⟨hdi, hfo⟩ := (hready listed done hsz hl i o ho).1 hi
        have hanc : ∀ j ∈ anc l l.length (fore o), done j = true := anc_closed hcl _ _ hfo
        have hs := AllIdx.at hstep i o ho
        simp only [Nat.zero_add] at hs
        have hF : Fore l Φ u W i o := by
          intro j hj
          exact hΦ j (hlt_anc l hfore i o ho j hj |> fun h => Nat.lt_trans h hlt) (hanc j hj)
        have hs := hs u done W hdi hanc hR hF
        have hnext : ∀ (v : Value) (W' : World), Φ i v W' → R (upd done i) W' → G W W' → wpAnyIn F n P .any l.toArray Q fuel (listed.setIfInBounds i true) (({ a with tmps := fillL u l 0 a.tmps } : Act).put o.dst v) W' := by
          intro v W' hv hR' hG
          have hput : (({ a with tmps := fillL u l 0 a.tmps } : Act).put o.dst v) = { a with tmps := fillL (fun j => if j = i then v else u j) l 0 a.tmps } := by
            cases hd : o.dst with
            | none =>
              simp only [Act.put]
              rw [fillL_none u v l 0 i a.tmps o ho hd, Nat.zero_add]
            | some d =>
              simp only [Act.put]
              rw [fillL_put u v l 0 i a.tmps o d hnd ho hd, Nat.zero_add]
          rw [hput]
          refine ih (listed.setIfInBounds i true) _ (upd done i) W' (by simp [hsz]) (fun j hj => ?_) ?_ ?_ hR' ?_
          · unfold upd
            by_cases e : j = i
            · subst e; simp [Array.getD_eq_getD_getElem?, hsz, hj]
            · rw [if_neg e, ← hl j hj]
              simp [Array.getD_eq_getD_getElem?, Array.getElem?_setIfInBounds_ne (Ne.symm e)]
          · have := countP_upd l.length done i hlt hdi
            omega
          · intro j oj hj hdj k hk
            unfold upd at hdj ⊢
            by_cases e : j = i
            · subst e
              rw [ho] at hj
              cases hj
              have := hfo k hk
              simp [this]
            · rw [if_neg e] at hdj
              have := hcl j oj hj hdj k hk
              simp [this]
          · intro j hj hdj
            unfold upd at hdj
            by_cases e : j = i
            · subst e; simpa using hv
            · rw [if_neg e] at hdj
              simp only [e, if_false]
              exact hst j _ W W' (hΦ j hj hdj) hG
        unfold wpOpIn
        simp only [List.getElem?_toArray, ho]
        by_cases hw : Region.wanted o (yielded l.toArray (fillL u l 0 a.tmps)) = true
        · rw [if_pos hw] at hs ⊢
          exact Oper.wpIn_mono (fun a' W' ⟨v, ha, hv, hR', hG⟩ => by subst ha; exact hnext v W' hv hR' hG) hs
        · rw [if_neg hw] at hs ⊢
          exact ⟨fun f _ => hwide f, hnext undef W hs.1 hs.2 (hGr W)⟩
  obtain ⟨u0, hself⟩ : ∃ u0 : Nat → Value, fillL u0 l 0 a.tmps = a.tmps :=
    ⟨fun i => match l[i]? with | some o => (match o.dst with | some d => a.tmps.getD d undef | none => undef) | none => undef, by
      apply fillL_self
      intro i o d hi hd _
      simp only [Nat.zero_add, hi, hd]⟩
  have hmain := main l.length (Array.replicate l.length false) u0 (fun _ => false) w.drew (by simp) (fun i hi => by simp [hi]) (by simp) (fun _ _ _ h => by cases h) h0 (fun _ _ h => by cases h)
  rw [hself] at hmain
  rw [List.size_toArray]
  exact hmain

/-- **A REGION THAT DRAWS ITS ORDER, IN GENERAL.** R done u W: what holds when the operations done have run and yielded u. -/
theorem region_inv {F : Fence} {n : Nat} {P : Program} {id : Nat} {l : List Oper} {Q : Exit → Act → World → Prop} {a : Act} {w : World} (hm : P.follows .mixedOrders = true)
    (hdag : (l.zipIdx.all fun (o, i) => (fore o).all (· < i)) = true) (hnd : (dstsOf l).Nodup) (hwide : ∀ f, F.fn f)
    (R : (Nat → Bool) → (Nat → Value) → World → Prop) (h0 : ∀ u, R (fun _ => false) u w.drew)
    (hstep : AllIdx (fun i o => ∀ (u : Nat → Value) (done : Nat → Bool) (W : World), done i = false → (∀ j ∈ anc l l.length (fore o), done j = true) → (∀ j oj, l[j]? = some oj → done j = true → ∀ k ∈ anc l l.length (fore oj), done k = true) → R done u W →
      if Region.wanted o (yielded l.toArray (fillL u l 0 a.tmps)) then o.wpIn F n P { a with tmps := fillL u l 0 a.tmps } W (fun a' W' => ∃ v, a' = ({ a with tmps := fillL u l 0 a.tmps } : Act).put o.dst v ∧ R (upd done i) (fun j => if j = i then v else u j) W') Q
      else R (upd done i) (fun j => if j = i then undef else u j) W) l 0)
    (hfin : ∀ (u : Nat → Value) (W : World), (∃ done, (∀ i, i < l.length → done i = true) ∧ R done u W) → Q .normal { a with tmps := fillL u l 0 a.tmps } W) :
    (Code.region id l.toArray true).wpIn F n P Q a w := by
  refine wpIn_region_any hm ?_
  have hfore : ∀ i o, l[i]? = some o → ∀ k ∈ fore o, k < i := by
    intro i o hi k hk
    rw [List.all_eq_true] at hdag
    have hmem : (o, i) ∈ l.zipIdx := by
      rw [List.mem_zipIdx_iff_getElem?]; exact hi
    have := hdag (o, i) hmem
    simp only [List.all_eq_true, decide_eq_true_eq] at this
    exact this k hk
  have hready : ∀ (listed : Array Bool) (done : Nat → Bool), listed.size = l.length → (∀ i, i < l.length → listed.getD i true = done i) → ∀ i o, l[i]? = some o →
      (i ∈ Region.ready .any l.toArray listed ↔ done i = false ∧ ∀ k ∈ fore o, done k = true) := by
    intro listed done hsz hl i o hi
    have hlt : i < l.length := (List.getElem?_eq_some_iff.1 hi).1
    have hget : ∀ k, k < l.length → listed.getD k false = done k := by
      intro k hk
      rw [← hl k hk]
      simp [Array.getD_eq_getD_getElem?, hsz, hk]
    simp only [Region.ready, List.mem_filter, List.mem_range, List.size_toArray, hlt, true_and, Bool.and_eq_true, Bool.not_eq_true', hl i hlt, List.getElem?_toArray, hi, Option.map_some, Option.getD_some]
    refine and_congr_right fun _ => ?_
    rw [Array.all_eq_true']
    constructor
    · intro h k hk
      have hki := hfore i o hi k hk
      simp only [fore, List.mem_map, List.mem_filter] at hk
      obtain ⟨e, ⟨he, hb⟩, rfl⟩ := hk
      have := h e (by simpa using he)
      simp only [hb, Bool.not_true, Bool.false_or] at this
      rw [← hget e.on (by omega)]
      exact this
    · intro h e he
      cases hb : Region.binds .any e with
      | false => simp
      | true =>
        have hk : e.on ∈ fore o := by simp only [fore, List.mem_map, List.mem_filter]; exact ⟨e, ⟨by simpa using he, hb⟩, rfl⟩
        have hd := h e.on hk
        have hek := hfore i o hi e.on hk
        rw [← hget e.on (by omega)] at hd
        simp only [Bool.not_true, Bool.false_or]
        exact hd
  have hmem : ∀ (listed : Array Bool) i, i ∈ Region.ready .any l.toArray listed → i < l.length := by
    intro listed i hi
    simp only [Region.ready, List.mem_filter, List.mem_range, List.size_toArray] at hi
    exact hi.1
  have hall : ∀ (listed : Array Bool) (done : Nat → Bool), listed.size = l.length → (∀ i, i < l.length → listed.getD i true = done i) → Region.ready .any l.toArray listed = [] → ∀ i, i < l.length → done i = true := by
    intro listed done hsz hl hr i
    induction i using Nat.strongRecOn with
    | _ i ih =>
      intro hi
      cases hd : done i with
      | true => rfl
      | false =>
        have ho : l[i]? = some l[i] := List.getElem?_eq_getElem hi
        have := (hready listed done hsz hl i _ ho).2 ⟨hd, fun k hk => by
          have hki := hfore i _ ho k hk
          exact ih k hki (by omega)⟩
        rw [hr] at this
        simp at this
  have main : ∀ (fuel : Nat) (listed : Array Bool) (u : Nat → Value) (done : Nat → Bool) (W : World), listed.size = l.length → (∀ i, i < l.length → listed.getD i true = done i) →
      (List.range l.length).countP (fun j => !done j) ≤ fuel → (∀ j o, l[j]? = some o → done j = true → ∀ k ∈ fore o, done k = true) → R done u W →
      wpAnyIn F n P .any l.toArray Q fuel listed { a with tmps := fillL u l 0 a.tmps } W := by
    intro fuel
    induction fuel with
    | zero =>
      intro listed u done W hsz hl hc hcl hR
      have hd : ∀ i, i < l.length → done i = true := by
        intro i hi
        have h0 : (List.range l.length).countP (fun j => !done j) = 0 := by omega
        rw [List.countP_eq_zero] at h0
        have := h0 i (List.mem_range.2 hi)
        simpa using this
      refine ⟨?_, hfin u W ⟨done, hd, hR⟩⟩
      rw [List.eq_nil_iff_forall_not_mem]
      intro i hi
      have hlt := hmem listed i hi
      have ho : l[i]? = some l[i] := List.getElem?_eq_getElem hlt
      have := ((hready listed done hsz hl i _ ho).1 hi).1
      rw [hd i hlt] at this
      cases this
    | succ fuel ih =>
      intro listed u done W hsz hl hc hcl hR
      refine ⟨fun hr => ?_, fun i hi => ?_⟩
      · have hd := hall listed done hsz hl hr
        exact hfin u W ⟨done, hd, hR⟩
      · have hlt := hmem listed i hi
        have ho : l[i]? = some l[i] := List.getElem?_eq_getElem hlt
        generalize hoo : l[i] = o at ho
        obtain ⟨hdi, hfo⟩ := (hready listed done hsz hl i o ho).1 hi
        have hanc : ∀ j ∈ anc l l.length (fore o), done j = true := anc_closed hcl _ _ hfo
        have hs := AllIdx.at hstep i o ho
        simp only [Nat.zero_add] at hs
        have hs := hs u done W hdi hanc (fun j oj hj hdj => anc_closed hcl _ _ (hcl j oj hj hdj)) hR
        have hnext : ∀ (v : Value) (W' : World), R (upd done i) (fun j => if j = i then v else u j) W' → wpAnyIn F n P .any l.toArray Q fuel (listed.setIfInBounds i true) (({ a with tmps := fillL u l 0 a.tmps } : Act).put o.dst v) W' := by
          intro v W' hR'
          have hput : (({ a with tmps := fillL u l 0 a.tmps } : Act).put o.dst v) = { a with tmps := fillL (fun j => if j = i then v else u j) l 0 a.tmps } := by
            cases hd : o.dst with
            | none =>
              simp only [Act.put]
              rw [fillL_none u v l 0 i a.tmps o ho hd, Nat.zero_add]
            | some d =>
              simp only [Act.put]
              rw [fillL_put u v l 0 i a.tmps o d hnd ho hd, Nat.zero_add]
          rw [hput]
          refine ih (listed.setIfInBounds i true) _ (upd done i) W' (by simp [hsz]) (fun j hj => ?_) ?_ ?_ hR'
          · unfold upd
            by_cases e : j = i
            · subst e; simp [Array.getD_eq_getD_getElem?, hsz, hj]
            · rw [if_neg e, ← hl j hj]
              simp [Array.getD_eq_getD_getElem?, Array.getElem?_setIfInBounds_ne (Ne.symm e)]
          · have := countP_upd l.length done i hlt hdi
            omega
          · intro j oj hj hdj k hk
            unfold upd at hdj ⊢
            by_cases e : j = i
            · subst e
              rw [ho] at hj
              cases hj
              have := hfo k hk
              simp [this]
            · rw [if_neg e] at hdj
              have := hcl j oj hj hdj k hk
              simp [this]
        unfold wpOpIn
        simp only [List.getElem?_toArray, ho]
        by_cases hw : Region.wanted o (yielded l.toArray (fillL u l 0 a.tmps)) = true
        · rw [if_pos hw] at hs ⊢
          exact Oper.wpIn_mono (fun a' W' ⟨v, ha, hR'⟩ => by subst ha; exact hnext v W' hR') hs
        · rw [if_neg hw] at hs ⊢
          exact ⟨fun f _ => hwide f, hnext undef W hs⟩
  obtain ⟨u0, hself⟩ : ∃ u0 : Nat → Value, fillL u0 l 0 a.tmps = a.tmps :=
    ⟨fun i => match l[i]? with | some o => (match o.dst with | some d => a.tmps.getD d undef | none => undef) | none => undef, by
      apply fillL_self
      intro i o d hi hd _
      simp only [Nat.zero_add, hi, hd]⟩
  have hmain := main l.length (Array.replicate l.length false) u0 (fun _ => false) w.drew (by simp) (fun i hi => by simp [hi]) (by simp) (fun _ _ _ h => by cases h) (h0 _)
  rw [hself] at hmain
  rw [List.size_toArray]
  exact hmain

/-- if operation j has run, its value is as p says -/
def Vl (done : Nat → Bool) (u : Nat → Value) (j : Nat) (p : Value → Prop) : Prop := done j = true → p (u j)
theorem Vl.keep {done : Nat → Bool} {u : Nat → Value} {j i : Nat} {p : Value → Prop} {x : Value} (h : Vl done u j p) (hne : j ≠ i) : Vl (upd done i) (fun k => if k = i then x else u k) j p := by
  intro hd
  simp only [upd, if_neg hne] at hd ⊢
  exact h hd
theorem Vl.new {done : Nat → Bool} {u : Nat → Value} {i : Nat} {p : Value → Prop} {x : Value} (h : p x) : Vl (upd done i) (fun k => if k = i then x else u k) i p := by
  intro _
  simpa using h
theorem Vl.start {u : Nat → Value} {j : Nat} {p : Value → Prop} : Vl (fun _ => false) u j p := fun h => by cases h
theorem upd_ne {done : Nat → Bool} {i j : Nat} (h : j ≠ i) : upd done i j = done j := by simp [upd, h]
theorem upd_self {done : Nat → Bool} {i : Nat} : upd done i i = true := by simp [upd]

theorem op_k {P : Program} {o : Oper} {a : Act} {W : World} {Q : Exit → Act → World → Prop} {RR : Value → World → Prop}
    (h : ∀ K : Act → World → Prop, (∀ v W', RR v W' → K (a.put o.dst v) W') → o.wp P a W K Q) : o.wp P a W (fun a' W' => ∃ v, a' = a.put o.dst v ∧ RR v W') Q :=
  h _ (fun v W' h => ⟨v, rfl, h⟩)
/-- An operation without a guard, in a region that draws. -/
theorem op_plain {P : Program} {o : Oper} {a : Act} {W : World} {Q : Exit → Act → World → Prop} {RR : Value → World → Prop} {y : Nat → Option Bool} {ro : Option Nat} {n : Nat} {E : Prop} (hg : o.guard = none) (hd : ∀ c, o.op ≠ .defer c)
    (h : ∀ K : Act → World → Prop, (∀ v W', RR v W' → K (a.put o.dst v) W') → o.wp P a W K Q) :
    if Region.wanted o y then o.wpIn { Fence.wide with round := ro } n P a W (fun a' W' => ∃ v, a' = a.put o.dst v ∧ RR v W') Q else E := by
  rw [if_pos (by simp [Region.wanted, hg])]
  exact wpIn_of_wp hd (op_k h)
/-- An operation whose guard is met. -/
theorem op_yes {P : Program} {o : Oper} {a : Act} {W : World} {Q : Exit → Act → World → Prop} {RR : Value → World → Prop} {y : Nat → Option Bool} {ro : Option Nat} {n : Nat} {E : Prop} {j : Nat} {b : Bool} (hg : o.guard = some (j, b)) (hy : y j = some b) (hd : ∀ c, o.op ≠ .defer c)
    (h : ∀ K : Act → World → Prop, (∀ v W', RR v W' → K (a.put o.dst v) W') → o.wp P a W K Q) :
    if Region.wanted o y then o.wpIn { Fence.wide with round := ro } n P a W (fun a' W' => ∃ v, a' = a.put o.dst v ∧ RR v W') Q else E := by
  rw [if_pos (by simp [Region.wanted, hg, hy])]
  exact wpIn_of_wp hd (op_k h)
/-- An operation whose guard is not met. -/
theorem op_no {o : Oper} {y : Nat → Option Bool} {E E' : Prop} {j : Nat} {b : Bool} (hg : o.guard = some (j, b)) (hy : y j = some (!b)) (h : E) : if Region.wanted o y then E' else E := by
  rw [if_neg (by simp [Region.wanted, hg, hy])]
  exact h
theorem fillL_get (u : Nat → Value) : ∀ (l : List Oper) (k j : Nat) (t : Array Value) (o : Oper) (d : Nat), (dstsOf l).Nodup → l[j]? = some o → o.dst = some d → d < t.size → (fillL u l k t)[d]? = some (u (k + j)) := by
  intro l
  induction l with
  | nil => intro k j t o d _ h; simp at h
  | cons x r ih =>
    intro k j t o d hn hj hd hlt
    cases j with
    | zero =>
      simp at hj
      subst hj
      have hnr : d ∉ dstsOf r := by
        have : (d :: dstsOf r).Nodup := by simpa [dstsOf, List.filterMap_cons, hd] using hn
        exact (List.nodup_cons.1 this).1
      simp only [fillL, hd, Nat.add_zero]
      have h1 : t.setIfInBounds d (u k) = (t.setIfInBounds d (u k)).setIfInBounds d (u k) := by rw [Array.setIfInBounds_setIfInBounds]
      rw [h1, ← fillL_set_comm u r (k + 1) _ d (u k) hnr]
      rw [Array.getElem?_setIfInBounds]
      simp [fillL_size, hlt]
    | succ j =>
      have hnr : (dstsOf r).Nodup := by
        cases hx : x.dst with
        | none => simpa [dstsOf, List.filterMap_cons, hx] using hn
        | some e =>
          have : (e :: dstsOf r).Nodup := by simpa [dstsOf, List.filterMap_cons, hx] using hn
          exact (List.nodup_cons.1 this).2
      simp only [fillL]
      rw [ih (k + 1) j _ o d hnr (by simpa using hj) hd (by split <;> simp [hlt])]
      rw [show k + 1 + j = k + (j + 1) by omega]

theorem yielded_fill {l : List Oper} {u : Nat → Value} {t : Array Value} {j : Nat} {b : Bool} (hnd : (dstsOf l).Nodup) (hlt : (match (l[j]?).bind (·.dst) with | some d => decide (d < t.size) | none => false) = true) (hu : u j = .bool b) :
    yielded l.toArray (fillL u l 0 t) j = some b := by
  cases ho : l[j]? with
  | none => rw [ho] at hlt; simp at hlt
  | some o =>
    rw [ho] at hlt
    cases hd : o.dst with
    | none => simp [hd] at hlt
    | some d =>
      simp [hd] at hlt
      have := fillL_get u l 0 j t o d hnd ho hd hlt
      simp [yielded, ho, hd, this, hu]

/-- An operation whose guard is not met, in a region that draws. -/
theorem op_skip {l : List Oper} {u : Nat → Value} {t : Array Value} {o : Oper} {E E' : Prop} (j : Nat) (b : Bool) {b' : Bool} (hu : u j = .bool b') (hne : (b' == b) = false) (hnd : (dstsOf l).Nodup)
    (hlt : (match (l[j]?).bind (·.dst) with | some d => decide (d < t.size) | none => false) = true) (hg : o.guard = some (j, b)) (h : E) : if Region.wanted o (yielded l.toArray (fillL u l 0 t)) then E' else E := by
  rw [if_neg (by simp [Region.wanted, hg, yielded_fill hnd hlt hu]; simpa using hne)]
  exact h
/-- An operation whose guard is met, in a region that draws. -/
theorem op_meet {P : Program} {l : List Oper} {u : Nat → Value} {t : Array Value} {o : Oper} {a : Act} {W : World} {Q : Exit → Act → World → Prop} {RR : Value → World → Prop} {ro : Option Nat} {n : Nat} {E : Prop} (j : Nat) (b : Bool) (hu : u j = .bool b) (hnd : (dstsOf l).Nodup)
    (hlt : (match (l[j]?).bind (·.dst) with | some d => decide (d < t.size) | none => false) = true) (hg : o.guard = some (j, b)) (hd : ∀ c, o.op ≠ .defer c)
    (h : ∀ K : Act → World → Prop, (∀ v W', RR v W' → K (a.put o.dst v) W') → o.wp P a W K Q) :
    if Region.wanted o (yielded l.toArray (fillL u l 0 t)) then o.wpIn { Fence.wide with round := ro } n P a W (fun a' W' => ∃ v, a' = a.put o.dst v ∧ RR v W') Q else E := by
  rw [if_pos (by simp [Region.wanted, hg, yielded_fill hnd hlt hu])]
  exact wpIn_of_wp hd (op_k h)
/-- An operation whose guard is met: its walk in a fence. -/
theorem op_meetIn {l : List Oper} {u : Nat → Value} {t : Array Value} {o : Oper} {E E' : Prop} (j : Nat) (b : Bool) (hu : u j = .bool b) (hnd : (dstsOf l).Nodup)
    (hlt : (match (l[j]?).bind (·.dst) with | some d => decide (d < t.size) | none => false) = true) (hg : o.guard = some (j, b)) (h : E') :
    if Region.wanted o (yielded l.toArray (fillL u l 0 t)) then E' else E := by
  rw [if_pos (by simp [Region.wanted, hg, yielded_fill hnd hlt hu])]
  exact h
/-- An operation's walk in a fence without bounds, out of its plain walk. -/
theorem op_in {P : Program} {o : Oper} {a : Act} {W : World} {Q : Exit → Act → World → Prop} {RR : Value → World → Prop} {ro : Option Nat} {n : Nat} (hd : ∀ c, o.op ≠ .defer c)
    (h : ∀ K : Act → World → Prop, (∀ v W', RR v W' → K (a.put o.dst v) W') → o.wp P a W K Q) :
    o.wpIn { Fence.wide with round := ro } n P a W (fun a' W' => ∃ v, a' = a.put o.dst v ∧ RR v W') Q := wpIn_of_wp hd (op_k h)
theorem mem_of {L : List Nat} {j : Nat} (h : L.contains j = true) : j ∈ L := by simpa using h
end Go.Proofs.Ytlilojpnhmfnaaa
