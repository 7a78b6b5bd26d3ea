/- Several texts of this claim in one file. (1) The plain part of TopUpdated: a step of a plan, carried out by packets; what is left of a plan. Nothing of the program is proved here. (2) The plain part of TopUpdated, continued: Install along a plan, the plan from a state of the plan. Nothing of the program is proved here. (3) A forest of knots, without addresses: what package options does to it; none where a number leaves its bounds. Nothing of the program is proved here. (4) A map with these entries: what a lookup and a store do. Nothing of the program is proved here. (5) The forest in memory. Nothing of the program is proved here but the laws of its types of keys. (6) A forest to which a knot is added. Nothing of the program is proved here. (7) What join does, step by step. Nothing of the program is proved here. (8) More operations for the walk by lemmas: strings, bytes, part of a slice; rows of mixed cells. Nothing of the program is proved here. (9) What grow does, step by step; a region that holds one call. Nothing of the program is proved here. (10) Closed facts about the types of package options. (11) Contract: node. (12) Contract: branch. (13) The branches of a test meet again. Nothing of the program is proved here. -/
import Derived.Test.YtaidcocjcidggaaBd6
import Derived.Maps.Keyed
import Derived.MapKept
import Derived.WideKeyArr
import Derived.RangeFuncRecord
namespace Go.Proofs.Ytaidcocjcidggaa
set_option linter.unusedSimpArgs false
set_option linter.unusedVariables false
section
set_option linter.unusedVariables false
/-- the packet of a computer -/
def pkC (ys : List Int) (se : Int) (data : ByteArray) (c : Nat) : Pk := ⟨c, ys[c]?.getD 0, data, tagR se c (ys[c]?.getD 0) data⟩
/-- the packets of a step, for the computers below one -/
def pkS (xs ys : List Int) (se : Int) (data : ByteArray) : Nat → List Pk
  | 0 => []
  | c + 1 => pkS xs ys se data c ++ (if ys[c]?.getD 0 = xs[c]?.getD 0 then [] else [pkC ys se data c])
/-- those for m computers from one on -/
def pkT (xs ys : List Int) (se : Int) (data : ByteArray) : Nat → Nat → List Pk
  | 0, _ => []
  | m + 1, c => (if ys[c]?.getD 0 = xs[c]?.getD 0 then [] else [pkC ys se data c]) ++ pkT xs ys se data m (c + 1)
/-- a state of which the computers below one have come on -/
def upS (xs ys : List Int) (c : Nat) : List Int := (List.range xs.length).map fun j => if j < c then ys[j]?.getD 0 else xs[j]?.getD 0
section
variable {xs ys : List Int} {se : Int} {data : ByteArray} {n : Nat}
theorem pkS_T : ∀ (m c : Nat), pkS xs ys se data c ++ pkT xs ys se data m c = pkS xs ys se data (c + m)
  | 0, c => by simp [pkT]
  | m + 1, c => by
    have ih := pkS_T m (c + 1)
    rw [show c + (m + 1) = c + 1 + m by omega, ← ih]
    simp only [pkT, pkS, List.append_assoc]
theorem pkS_lt : ∀ (c : Nat), ∀ q ∈ pkS xs ys se data c, q.c < (c : Int)
  | 0, q, h => by simp [pkS] at h
  | c + 1, q, h => by
    simp only [pkS, List.mem_append] at h
    rcases h with h | h
    · have := pkS_lt c q h; omega
    · split at h
      · simp at h
      · simp at h; subst h; show (c : Int) < _; omega
theorem pkS_len : ∀ (c : Nat), (pkS xs ys se data c).length ≤ c
  | 0 => by simp [pkS]
  | c + 1 => by
    have := pkS_len c
    simp only [pkS, List.length_append]
    split <;> simp <;> omega
theorem pkS_pos : ∀ (c k : Nat), k < c → ys[k]?.getD 0 ≠ xs[k]?.getD 0 → 1 ≤ (pkS xs ys se data c).length
  | 0, k, h, _ => by omega
  | c + 1, k, h, hne => by
    simp only [pkS, List.length_append]
    by_cases e : k = c
    · subst e; rw [if_neg hne]; simp
    · have := pkS_pos c k (by omega) hne; omega
theorem pkS_data (hd : data.size < 1152921504606846976) : ∀ (c : Nat), ∀ q ∈ pkS xs ys se data c, q.data.size < 1152921504606846976
  | 0, q, h => by simp [pkS] at h
  | c + 1, q, h => by
    simp only [pkS, List.mem_append] at h
    rcases h with h | h
    · exact pkS_data hd c q h
    · split at h
      · simp at h
      · simp at h; subst h; exact hd
theorem upS_zero : upS xs ys 0 = xs := by
  unfold upS
  refine List.ext_getElem? fun j => ?_
  by_cases h : j < xs.length
  · rw [List.getElem?_map, List.getElem?_range h]; simp [h]
  · rw [List.getElem?_eq_none (by simpa using h), List.getElem?_eq_none (by omega)]
theorem upS_full (h : ys.length = xs.length) : upS xs ys xs.length = ys := by
  unfold upS
  refine List.ext_getElem? fun j => ?_
  by_cases hj : j < xs.length
  · rw [List.getElem?_map, List.getElem?_range hj]; simp [hj, h]
  · rw [List.getElem?_eq_none (by simpa using hj), List.getElem?_eq_none (by omega)]
theorem upS_same {c : Nat} (e : ys[c]?.getD 0 = xs[c]?.getD 0) : upS xs ys (c + 1) = upS xs ys c := by
  unfold upS
  refine List.map_congr_left fun j hj => ?_
  by_cases h : j = c
  · subst h; rw [if_pos (by omega), if_neg (by omega), e]
  · by_cases h2 : j < c
    · rw [if_pos (by omega), if_pos h2]
    · rw [if_neg (by omega), if_neg h2]
theorem upS_set {c : Nat} (hc : c < xs.length) : (upS xs ys c).set c (ys[c]?.getD 0) = upS xs ys (c + 1) := by
  refine List.ext_getElem? fun j => ?_
  rw [List.getElem?_set]
  have hl : (upS xs ys c).length = xs.length := by simp [upS]
  by_cases h : c = j
  · subst h
    rw [if_pos rfl, if_pos (by omega)]
    unfold upS
    rw [List.getElem?_map, List.getElem?_range hc]
    simp
  · rw [if_neg h]
    unfold upS
    by_cases hj : j < xs.length
    · rw [List.getElem?_map, List.getElem?_map, List.getElem?_range hj]
      by_cases h2 : j < c
      · simp [h2, show j < c + 1 by omega]
      · simp [h2, show ¬ j < c + 1 by omega]
    · rw [List.getElem?_eq_none (by simpa using hj), List.getElem?_eq_none (by simpa using hj)]
end
/-- is the tag of a packet to be had -/
theorem tag_free {s c v c' v' : Int} {data : ByteArray} (h : tagE s c v data = 0) (hc : withinB c' 0 5 = true) (hv : withinB v' 0 3 = true) : tagE s c' v' data = 0 := by
  unfold tagE tagB at *
  split at h
  · rename_i hb
    simp only [Bool.and_eq_true] at hb
    rw [if_pos (by simp only [Bool.and_eq_true]; simp_all)]
  · cases h
end
section
set_option linter.unusedVariables false
section
variable {f : Fl} {bu se : Int} {xs ys : List Int} {L : List (List Int)} {data : ByteArray}
/-- the rounds of Install, behind the packets of the computers below c -/
theorem inst_rounds (hok : FlOk f) (hx : StOk f xs) (hy : StOk f ys) (ha : aboveV ys xs = true) (hT : tagE se 0 0 data = 0) : ∀ (m c : Nat), c + m = xs.length →
    instL f se xs (pkS xs ys se data c) (pkT xs ys se data m c) (upS xs ys c) = (0, 0, ys)
  | 0, c, h => by
    have e : c = xs.length := by omega
    subst e
    simp only [pkT, instL]
    rw [upS_full (by rw [hx.len, hy.len])]
  | m + 1, c, h => by
    have ih := inst_rounds hok hx hy ha hT m (c + 1) (by omega)
    have hl := hx.len
    have hcl : c < f.times.length := by omega
    by_cases e : ys[c]?.getD 0 = xs[c]?.getD 0
    · simp only [pkT, pkS] at ih ⊢
      rw [if_pos e, List.append_nil] at ih
      rw [if_pos e, List.nil_append]
      rw [upS_same e] at ih
      exact ih
    · have hv := hy.ver c hcl
      have hv0 := hx.ver c hcl
      have hr := hok.row c hcl
      have h6 := hok.n6
      have hlt : xs[c]?.getD 0 < ys[c]?.getD 0 := by
        have := aboveV_le ha c (by rw [hy.len]; exact hcl)
        omega
      have ht : tagE se (c : Int) (ys[c]?.getD 0) data = 0 := tag_free hT (withinB_iff.2 ⟨by omega, by omega⟩) (withinB_iff.2 ⟨by omega, by omega⟩)
      have hver : verB f.times (c : Int) (ys[c]?.getD 0) = true := by
        have := List.all_eq_true.1 (by have := hy.b; unfold stB at this; exact (Bool.and_eq_true_iff.1 this).2) c (List.mem_range.2 (by rw [hy.len]; exact hcl))
        exact this
      have hacc : acceptE f se (pkC ys se data c).c (pkC ys se data c).v (pkC ys se data c).data (pkC ys se data c).tg = 0 := by
        show acceptE f se (c : Int) (ys[c]?.getD 0) data (tagR se (c : Int) (ys[c]?.getD 0) data) = 0
        unfold acceptE
        rw [if_pos ht, if_pos hver, if_pos rfl]
      have hno : (pkS xs ys se data c).any (fun q => q.c == (pkC ys se data c).c) = false := by
        rw [List.any_eq_false]
        intro q hq
        have := pkS_lt c q hq
        simp only [beq_iff_eq]
        show ¬ q.c = (c : Int)
        omega
      have hnv : ¬ (pkC ys se data c).v ≤ xs[(pkC ys se data c).c.toNat]?.getD 0 := by
        show ¬ ys[c]?.getD 0 ≤ xs[(c : Int).toNat]?.getD 0
        rw [Int.toNat_natCast]; omega
      simp only [pkT, pkS] at ih ⊢
      rw [if_neg e] at ih
      rw [if_neg e, List.singleton_append]
      simp only [instL]
      rw [if_pos hacc, hno]
      simp only [Bool.false_eq_true, if_false]
      rw [if_neg hnv]
      show instL f se xs _ _ ((upS xs ys c).set (c : Int).toNat (ys[c]?.getD 0)) = _
      rw [Int.toNat_natCast, upS_set (by omega)]
      exact ih
theorem ne_at2 {a b : List Int} (hl : a.length = b.length) (hne : a ≠ b) : ∃ k, k < a.length ∧ b[k]?.getD 0 ≠ a[k]?.getD 0 := by
  refine Classical.byContradiction fun h => hne ?_
  refine List.ext_getElem hl fun k h1 h2 => ?_
  have := Classical.byContradiction (p := b[k]?.getD 0 = a[k]?.getD 0) fun h3 => h ⟨k, h1, h3⟩
  simp [h1, h2] at this
  exact this.symm
theorem okPlan_stp : ∀ (L : List (List Int)) (xs : List Int), okPlan f bu xs L → ∀ k, k < L.length → stepsB f.times (pAt xs L k) (pAt xs L (k + 1)) bu = true
  | [], _, _, k, h => by simp at h
  | s :: r, xs, h, 0, _ => h.2.1
  | s :: r, xs, h, k + 1, hk => okPlan_stp r s h.2.2 k (by simpa using hk)
theorem okPlan_drop : ∀ (L : List (List Int)) (xs : List Int), okPlan f bu xs L → ∀ k, k ≤ L.length → okPlan f bu (pAt xs L k) (L.drop k) ∧ lastOf (pAt xs L k) (L.drop k) = lastOf xs L
  | L, xs, h, 0, _ => ⟨h, rfl⟩
  | [], _, _, k + 1, h => by simp at h
  | s :: r, xs, h, k + 1, hk => okPlan_drop r s h.2.2 k (by simpa using hk)
theorem intr_in (T : List (List Int)) : ∀ (ms : List Int) (L : List (List Int)) (xs : List Int), ∀ x ∈ intr T xs L ms, x = xs ∨ x ∈ L
  | [], L, xs, x, h => by cases L <;> simp [intr] at h
  | m :: ms, [], xs, x, h => by
    simp only [intr, List.mem_cons] at h
    rcases h with h | h
    · exact .inl h
    · exact intr_in T ms [] xs x h
  | m :: ms, s :: r, xs, x, h => by
    simp only [intr] at h
    split at h
    · simp only [List.mem_cons] at h
      rcases h with h | h
      · exact .inr (by rw [h]; exact List.mem_cons_self)
      · rcases intr_in T ms r s x h with h | h
        · exact .inr (by rw [h]; exact List.mem_cons_self)
        · exact .inr (List.mem_cons_of_mem _ h)
    · simp only [List.mem_cons] at h
      rcases h with h | h
      · exact .inl h
      · rcases intr_in T ms (s :: r) xs x h with h | h
        · exact .inl h
        · exact .inr h
theorem intr_pl {T : List (List Int)} {ms : List Int} {L : List (List Int)} {xs : List Int} {j : Nat} (h : j < (intr T xs L ms).length) : ∃ B, B ≤ L.length ∧ (intr T xs L ms)[j]?.getD [] = pAt xs L B := by
  have hm : (intr T xs L ms)[j]?.getD [] ∈ intr T xs L ms := by rw [List.getElem?_eq_getElem h]; exact List.getElem_mem h
  rcases intr_in T ms L xs _ hm with e | e
  · exact ⟨0, Nat.zero_le _, e⟩
  · obtain ⟨k, hk, e2⟩ := List.getElem_of_mem e
    refine ⟨k + 1, hk, ?_⟩
    rw [pAt_succ, List.getElem?_eq_getElem hk]
    exact e2.symm
theorem planned_mid {a : List Int} (hc : chkB f = true) (ha : StOk f a) (hy : StOk f ys) (hb0 : 0 ≤ bu) (hb1 : bu ≤ 1000000) (hwa : worksB f a = true) (hwy : worksB f ys = true) : plannedE f a ys bu = 0 := by
  have hs : statesE f [a, ys] = 0 := by
    unfold statesE
    rw [if_pos hc, if_pos (by simp [stsB, List.range_succ, ha.b, hy.b])]
  have hbe : beginE f bu [a, ys] = 0 := by
    unfold beginE
    rw [if_pos hs, if_pos (withinB_iff.2 ⟨hb0, hb1⟩)]
  unfold plannedE
  rw [if_pos hbe, hwa, hwy]
  rfl
/-- from each state of a plan there is a plan, and it is not longer -/
theorem rest_plan (hp : planE f xs ys bu = 0) {k : Nat} (hk : k ≤ (planV f xs ys bu).length) : planE f (pAt xs (planV f xs ys bu) k) ys bu = 0 ∧ (planV f (pAt xs (planV f xs ys bu) k) ys bu).length ≤ (planV f xs ys bu).length := by
  obtain ⟨hP, hlast, hcp, hst, _⟩ := planV_holds hp
  obtain ⟨hc, hwx, hb0⟩ := cpR_chk hcp
  obtain ⟨hd1, hd2⟩ := okPlan_drop _ _ hP.pl k hk
  rw [hlast] at hd2
  have hpl : plannedE f xs ys bu = 0 := by
    refine Classical.byContradiction fun hn => ?_
    unfold planE at hp
    rw [if_neg hn] at hp
    exact hn hp
  obtain ⟨hb, _, hwy⟩ := plannedE_ok hpl
  obtain ⟨_, _, hsy⟩ := beginE_ok hb
  have hb1 : bu ≤ 1000000 := by
    unfold beginE at hb
    split at hb
    · split at hb
      · rename_i h; exact (withinB_iff.1 h).2
      · cases hb
    · rename_i h; exact absurd hb h
  have ha := hP.at hk
  have hpm := planned_mid hc ha hsy hb0 hb1 (hP.works hwx hk) hwy
  have hmem : ∀ x ∈ (planV f xs ys bu).drop k, StOk f x := fun x hx => pl_mem hP.l x (List.mem_of_mem_drop hx)
  have hm := best_min hP.ok hsy ((planV f xs ys bu).drop k) (pAt xs (planV f xs ys bu) k) ha hmem hd1 hd2
  have hE : planE f (pAt xs (planV f xs ys bu) k) ys bu = 0 := by
    unfold planE
    rw [if_pos hpm, if_pos hm.1]
  refine ⟨hE, ?_⟩
  have h4 := (planV_holds hE).2.2.2.1
  have h5 := hm.2
  rw [List.length_drop] at h5
  omega
/-- a step, carried out by packets -/
theorem inst_step (hp : PlOk f bu xs L) (hc : chkB f = true) (hx : worksB f xs = true) {i : Nat} (hi : i < L.length) (hT : (pkS (pAt xs L i) (L[i]?.getD []) se data f.times.length).length = 0 ∨ tagE se 0 0 data = 0) :
    instR f se (pAt xs L i) (pkS (pAt xs L i) (L[i]?.getD []) se data f.times.length) = (L[i]?.getD [], 0, 0) := by
  have e1 : pAt xs L (i + 1) = L[i]?.getD [] := pAt_succ
  have ha := hp.at (k := i) (by omega)
  have hb := hp.at (k := i + 1) (by omega)
  have hne := okPlan_ne L xs hp.pl i hi
  have hst : stepsB f.times (pAt xs L i) (pAt xs L (i + 1)) bu = true := okPlan_stp L xs hp.pl i hi
  rw [e1] at hb hne hst
  unfold stepsB at hst
  rw [Bool.and_eq_true, Bool.and_eq_true] at hst
  obtain ⟨k, hk, hkn⟩ := ne_at2 (by rw [ha.len, hb.len]) hne.1
  have hpos := pkS_pos (xs := pAt xs L i) (ys := L[i]?.getD []) (se := se) (data := data) f.times.length k (by rw [← ha.len]; exact hk) hkn
  have hlen := pkS_len (xs := pAt xs L i) (ys := L[i]?.getD []) (se := se) (data := data) f.times.length
  have hT0 : tagE se 0 0 data = 0 := hT.resolve_left (by omega)
  have hr := inst_rounds hp.ok ha hb hst.1.1 hT0 f.times.length 0 (by rw [ha.len]; omega)
  have hs := pkS_T (xs := pAt xs L i) (ys := L[i]?.getD []) (se := se) (data := data) f.times.length 0
  simp only [pkS, List.nil_append, Nat.zero_add] at hs
  rw [hs, upS_zero] at hr
  simp only [pkS] at hr
  unfold instR
  rw [if_pos (show statesE f [pAt xs L i] = 0 from wE_zero hc ha), if_pos (withinB_iff.2 ⟨by omega, by omega⟩)]
  simp only [hr]
  rw [if_pos trivial, hp.works hx (k := i) (by omega), hne.2.1]
  simp
end
end
section
set_option linter.unusedVariables false
/-- three numbers -/
abbrev Knt := Int × Int × Int
structure Fo where
  n : Int
  kn : List Knt
  kw : List (Knt × Int)
  jn : List (Knt × Int)
def getM {α : Type} [BEq α] (l : List (α × Int)) (k : α) : Option Int := (l.find? fun e => e.1 == k).map (·.2)
def sm (x : Int) : Bool := decide (-1000 ≤ x) && decide (x ≤ 1000)
def sm3 (k : Knt) : Bool := sm k.1 && (sm k.2.1 && sm k.2.2)
def Fo.at (F : Fo) (i : Int) : Option Knt := if 0 ≤ i then F.kn[i.toNat]? else none
/-- node -/
def Fo.node (F : Fo) (k : Knt) : Option (Fo × Int) :=
  if k.2.1 = k.2.2 then some (F, k.2.1) else if sm3 k then match getM F.kw k with
    | some n => some (F, n)
    | none => if F.kn.length < 900 then some ({ F with kn := F.kn ++ [k], kw := F.kw ++ [(k, (F.kn.length : Int))] }, (F.kn.length : Int)) else none
  else none
/-- branch -/
def Fo.branch (F : Fo) (n o : Int) (w : Bool) : Option Int := (F.at n).map fun k => if k.1 ≠ o then n else if w then k.2.2 else k.2.1
def endJ (op a b : Int) : Int :=
  let x := a == 1; let y := b == 1
  let is := if op = -4 then x && y else if op = -5 then x || y else x == y
  if is then 1 else 0
/-- join; by fuel -/
def Fo.join : Nat → Fo → Int → Int → Int → Option (Fo × Int)
  | 0, _, _, _, _ => none
  | m + 1, F, op, a, b =>
    if a < 2 ∧ b < 2 then some (F, endJ op a b) else
    let a' := if b < a then b else a
    let b' := if b < a then a else b
    if sm3 (op, a', b') then match getM F.jn (op, a', b') with
      | some n => some (F, n)
      | none => (F.at a').bind fun ka => (F.at b').bind fun kb =>
        let o := min ka.1 kb.1
        (F.branch a' o false).bind fun a0 => (F.branch b' o false).bind fun b0 => (Fo.join m F op a0 b0).bind fun r1 =>
        (r1.1.branch a' o true).bind fun a1 => (r1.1.branch b' o true).bind fun b1 => (Fo.join m r1.1 op a1 b1).bind fun r2 =>
        (r2.1.node (o, r1.2, r2.2)).bind fun r =>
        if getM r.1.jn (op, a', b') = none then some ({ r.1 with jn := r.1.jn ++ [((op, a', b'), r.2)] }, r.2) else none
    else none
def Fo.new (n : Int) : Fo := ⟨n, [(n, 0, 0), (n, 0, 0)], [], []⟩
/-- and -/
def Fo.and (m : Nat) : Fo → Int → List Int → Option (Fo × Int)
  | F, n, [] => some (F, n)
  | F, n, x :: l => (Fo.join m F (-4) n x).bind fun r => Fo.and m r.1 r.2 l
def Fo.literal (F : Fo) (o : Int) (w : Bool) : Option (Fo × Int) := F.node (o, if w then (0, 1) else (1, 0))
def opn (x : Int) : Nat := if x = -3 then 1 else if x = -4 ∨ x = -5 ∨ x = -6 then 2 else 0
/-- one round of grow: the node of a sign -/
def Fo.sign (m : Nat) (F : Fo) (x : Int) (st : List Int) : Option (Fo × Int) :=
  if x = -1 then some (F, 1) else if x = -2 then some (F, 0)
  else if x = -3 then (st[st.length - 1]?).bind fun a => Fo.join m F (-6) a 0
  else if x = -4 ∨ x = -5 ∨ x = -6 then (st[st.length - 1]?).bind fun a => (st[st.length - 2]?).bind fun b => Fo.join m F x a b
  else F.literal x true
/-- grow: the signs that are left, the last first -/
def Fo.grow (m : Nat) : Fo → List Int → List Int → Option (Fo × List Int)
  | F, [], st => some (F, st)
  | F, x :: l, st => if opn x ≤ st.length then (Fo.sign m F x st).bind fun r => Fo.grow m r.1 l (st.take (st.length - opn x) ++ [r.2]) else none
def Fo.grown (m : Nat) (F : Fo) (f : List Int) : Option (Fo × Int) := (Fo.grow m F f.reverse []).bind fun r => r.2[0]?.map fun x => (r.1, x)
/-- all -/
def Fo.all (m : Nat) : Fo → Int → List (List Int) → Option (Fo × Int)
  | F, n, [] => some (F, n)
  | F, n, f :: l => (Fo.grown m F f).bind fun r => (Fo.and m r.1 1 [n, r.2]).bind fun s => Fo.all m s.1 s.2 l
/-- count; by fuel; with what is known -/
def Fo.count (F : Fo) : Nat → List (Int × Int) → Int → Int → Option (List (Int × Int) × Int)
  | 0, _, _, _ => none
  | m + 1, K, n, o =>
    if n = 0 then some (K, 0) else (F.at n).bind fun k =>
    if sm n && (sm k.1 && (sm o && (decide (o ≤ k.1) && decide (k.1 ≤ o + 20)))) then
      match getM K n with
      | some w => if 0 ≤ w ∧ w ≤ 1000000 then some (K, w * 2 ^ (k.1 - o).toNat) else none
      | none => (if n = 1 then some (K, 1) else (Fo.count F m K k.2.1 (k.1 + 1)).bind fun r => (Fo.count F m r.1 k.2.2 (k.1 + 1)).bind fun s =>
          if 0 ≤ r.2 ∧ 0 ≤ s.2 ∧ r.2 + s.2 ≤ 1000000 then some (s.1, r.2 + s.2) else none).bind fun r =>
        if getM r.1 n = none then some (r.1 ++ [(n, r.2)], r.2 * 2 ^ (k.1 - o).toNat) else none
    else none
def Fo.counted (n : Int) (rs : List (List Int)) (f : List Int) : Option Int :=
  (Fo.all 40 (Fo.new n) 1 rs).bind fun r => (Fo.grown 40 r.1 f).bind fun g => (Fo.and 40 g.1 1 [r.2, g.2]).bind fun s => (Fo.count s.1 40 [] s.2 0).map (·.2)
theorem counted_three : Fo.counted 2 [[-5, 0, 1]] [-1] = some 3 := by decide
end
section
set_option linter.unusedVariables false
set_option linter.unusedSectionVars false


/-- how keys are laid down -/
structure KeyT (P : Program) (k : TypeId) (α : Type) where
  kv : α → Value
  ok : α → Prop
  law : Go.Maps.Keyed P k
  key : ∀ x, ok x → ∃ l, keyOf P k (kv x) = some l
  inj : ∀ x y, kv x = kv y → x = y

section
variable {P : Program} {k : TypeId} {α : Type} [BEq α] [LawfulBEq α] {T : KeyT P k α} {W : World} {m t e : Nat} {E : List (α × Int)}
/-- block m is a map with these entries -/
def MpAt (T : KeyT P k α) (W : World) (m : Nat) (E : List (α × Int)) : Prop :=
  ∃ es clk, W.heap[m]? = some (.map es clk) ∧ es.toList.map (fun e => (e.key, e.val)) = E.map (fun x => (T.kv x.1, Value.int .i64 x.2)) ∧ (∀ x ∈ E, T.ok x.1) ∧ (E.map (·.1)).Nodup
theorem MpAt.lt (h : MpAt T W m E) : m < W.heap.size := by
  obtain ⟨es, clk, hb, _⟩ := h
  exact (Array.getElem?_eq_some_iff.1 hb).1
theorem MpAt.stay {W' : World} (h : MpAt T W m E) (hb : W'.heap[m]? = W.heap[m]?) : MpAt T W' m E := by
  obtain ⟨es, clk, hm, h2⟩ := h
  exact ⟨es, clk, hb.trans hm, h2⟩
theorem mp_new {clk : Nat} (h : W.heap[m]? = some (.map #[] clk)) : MpAt T W m [] := ⟨#[], clk, h, rfl, fun e he => by simp at he, by simp⟩
theorem getM_none {x : α} : getM E x = none ↔ ∀ y ∈ E, y.1 ≠ x := by
  unfold getM
  rw [Option.map_eq_none_iff, List.find?_eq_none]
  exact ⟨fun h y hy e => h y hy (by simp [e]), fun h y hy e => h y hy (by simpa using e)⟩
theorem getM_some {x : α} {v : Int} (hd : (E.map (·.1)).Nodup) (h : (x, v) ∈ E) : getM E x = some v := by
  unfold getM
  induction E with
  | nil => simp at h
  | cons y l ih =>
    rw [List.map_cons, List.nodup_cons] at hd
    rw [List.find?_cons]
    rcases List.mem_cons.1 h with rfl | h'
    · simp
    · have hne : ¬ y.1 = x := fun e => hd.1 (by rw [e]; exact List.mem_map.2 ⟨_, h', rfl⟩)
      rw [show (y.1 == x) = false by simpa using hne]
      exact ih hd.2 h'
/-- the two cases of a look -/
theorem MpAt.find {x : α} {es : Array MapEntry} (hes : es.toList.map (fun e => (e.key, e.val)) = E.map (fun x => (T.kv x.1, Value.int .i64 x.2))) (hok : ∀ x ∈ E, T.ok x.1) (hd : (E.map (·.1)).Nodup) {l : Lit} (hl : keyOf P k (T.kv x) = some l) :
    ((Instr.findKey k (T.kv x) es.toList).run P W = .ok none W ∧ (∀ e ∈ es.toList, e.key ≠ T.kv x) ∧ getM E x = none) ∨ ∃ j e v, (Instr.findKey k (T.kv x) es.toList).run P W = .ok (some (j, e)) W ∧ e = Value.int .i64 v ∧ getM E x = some v := by
  have hk : ∀ e ∈ es.toList, ∃ y ∈ E, e.key = T.kv y.1 ∧ e.val = Value.int .i64 y.2 := fun e he => by
    have : (e.key, e.val) ∈ es.toList.map (fun e => (e.key, e.val)) := List.mem_map_of_mem he
    rw [hes, List.mem_map] at this
    obtain ⟨y, h1, h2⟩ := this
    injection h2 with h3 h4
    exact ⟨y, h1, h3.symm, h4.symm⟩
  rcases T.law.find W hl es.toList (fun e he => by obtain ⟨y, h1, h2, -⟩ := hk e he; rw [h2]; exact T.key _ (hok y h1)) with ⟨h1, h2⟩ | ⟨j, e0, h1, h2, h3⟩
  · refine .inl ⟨h1, h2, getM_none.2 fun y hy e => ?_⟩
    have : (T.kv y.1, Value.int .i64 y.2) ∈ E.map (fun x => (T.kv x.1, Value.int .i64 x.2)) := List.mem_map_of_mem hy
    rw [← hes, List.mem_map] at this
    obtain ⟨e0, he0, h4⟩ := this
    injection h4 with h5 h6
    exact h2 e0 he0 (by rw [h5, e])
  · obtain ⟨y, hy, h4, h5⟩ := hk e0 (List.mem_of_getElem? h2)
    have hyx : y.1 = x := T.inj _ _ (by rw [← h4, h3])
    exact .inr ⟨j, e0.val, y.2, h1, h5, getM_some hd (by rw [← hyx]; exact hy)⟩
theorem mp_look (ht : P.underlying t = some (.map k e)) (hz : (zeroValue e).run P W = .ok (.int .i64 0) W) (h : MpAt T W m E) {x : α} (hx : T.ok x) :
    (Instr.lookup t (.map (some m)) (T.kv x) true).run P W = .ok (.tuple #[.int .i64 ((getM E x).getD 0), .bool (getM E x).isSome]) W := by
  obtain ⟨es, clk, hb, hes, hok, hd⟩ := h
  obtain ⟨l, hl⟩ := T.key x hx
  rcases MpAt.find (W := W) hes hok hd hl with ⟨h1, h2, h3⟩ | ⟨j, e0, v, h1, h2, h3⟩
  · rw [h3]; simp [Instr.lookup, run_underlying ht, MapKept.run_getObj_map hb, T.law.check W _ hl, h1, hz, Result.andThen]
  · rw [h3]; simp [Instr.lookup, run_underlying ht, MapKept.run_getObj_map hb, T.law.check W _ hl, h1, h2, Result.andThen]
theorem mp_store (ht : P.underlying t = some (.map k e)) (h : MpAt T W m E) {x : α} {v : Int} (hx : T.ok x) (hn : getM E x = none) :
    ∃ o, (Instr.mapUpdate t (.map (some m)) (T.kv x) (.int .i64 v)).run P W = .ok () (W.putObj m o) ∧ MpAt T (W.putObj m o) m (E ++ [(x, v)]) := by
  have hlt := h.lt
  obtain ⟨es, clk, hb, hes, hok, hd⟩ := h
  obtain ⟨l, hl⟩ := T.key x hx
  have hset : ∀ o, (setObj m o).run P W = .ok () (W.putObj m o) := fun o => by
    simp [setObj, Sem.run, hb, World.putObj]
  rcases MpAt.find (W := W) hes hok hd hl with ⟨h1, h2, h3⟩ | ⟨j, e0, v, h1, h2, h3⟩
  · refine ⟨.map (es.push { key := T.kv x, val := .int .i64 v, born := clk }) (clk + 1), by simp [Instr.mapUpdate, run_underlying ht, MapKept.run_getObj_map hb, T.law.check W _ hl, h1, Result.andThen, hset], es.push { key := T.kv x, val := .int .i64 v, born := clk }, clk + 1, ?_, ?_, ?_, ?_⟩
    · exact World.putObj_heap_same hlt
    · rw [Array.toList_push, List.map_append, List.map_append, hes]; rfl
    · intro y hy
      rcases List.mem_append.1 hy with hy | hy
      · exact hok y hy
      · simp at hy; subst hy; exact hx
    · rw [List.map_append, List.nodup_append]
      refine ⟨hd, by simp, ?_⟩
      intro a ha b hb e
      obtain ⟨y, hy, rfl⟩ := List.mem_map.1 ha
      simp at hb
      exact getM_none.1 hn y hy (e.trans hb)
  · rw [h3] at hn; cases hn
end
end
section
open Go.RowKit
open Go.WideShapes Go.WideMaps
set_option linter.unusedVariables false

/-- a key of three numbers -/
def knV (k : Knt) : Value := .agg #[.int .i64 k.1, .int .i64 k.2.1, .int .i64 k.2.2]
def SmK (k : Knt) : Prop := sm3 k = true
theorem sm_ok {x : Int} (h : sm x = true) : -1000 ≤ x ∧ x ≤ 1000 := by simpa [sm] using h
theorem SmK.ok {k : Knt} (h : SmK k) : (-1000 ≤ k.1 ∧ k.1 ≤ 1000) ∧ (-1000 ≤ k.2.1 ∧ k.2.1 ≤ 1000) ∧ (-1000 ≤ k.2.2 ∧ k.2.2 ≤ 1000) := by
  unfold SmK sm3 at h
  rw [Bool.and_eq_true, Bool.and_eq_true] at h
  exact ⟨sm_ok h.1, sm_ok h.2.1, sm_ok h.2.2⟩
theorem knV_inj (x y : Knt) (h : knV x = knV y) : x = y := by
  unfold knV at h
  injection h with h
  simp at h
  obtain ⟨a, b, c⟩ := x
  obtain ⟨a', b', c'⟩ := y
  simp at h ⊢
  exact h
theorem wf_small {x : Int} (h : -1000 ≤ x ∧ x ≤ 1000) : (Lit.int .i64 x).wf = true := by
  simp [Lit.wf, IntKind.min, IntKind.max, IntKind.signed, IntKind.bits]; omega
theorem keyOf_kn (t : TypeId) (ht : t = 157 ∨ t = 174) (x : Knt) (h : SmK x) : ∃ l, keyOf Try.prog t (knV x) = some l := by
  have hs : ∃ m, Try.prog.types.size = m + 1 := ⟨Try.prog.types.size - 1, by kernel_rfl⟩
  obtain ⟨m, hm⟩ := hs
  have h0 := wf_small h.ok.1
  have h1 := wf_small h.ok.2.1
  have h2 := wf_small h.ok.2.2
  have c2 : Try.prog.cellsOf 3 = 1 := by kernel_rfl
  have c3 : Try.prog.cellsOf 157 = 3 := by kernel_rfl
  have c4 : Try.prog.cellsOf 174 = 3 := by kernel_rfl
  rcases ht with rfl | rfl
  all_goals
    unfold keyOf knV
    first | rw [Try.underlying157] | rw [Try.underlying174]
    simp only
    rw [if_pos (by kernel_rfl), hm]
    simp [Program.keyLits, Try.underlying157, Try.underlying174, Try.underlying3, c2, c3, c4, Value.cells, h0, h1, h2]
set_option maxRecDepth 20000 in
theorem kn_law (t : TypeId) (h : Try.prog.keyTypeAt 2 t = true) (h2 : Try.prog.tiled 2 t = true) (h3 : (match Try.prog.underlying t with | some (.array _ _) | some (.struct _) => true | _ => false) = true) : Go.Maps.Keyed Try.prog t :=
  Go.Maps.Keyed.of_law (deep_law (m := 2) (by omega) h h2 h3)
def knotT : KeyT Try.prog 157 Knt := ⟨knV, SmK, kn_law 157 (by kernel_rfl) (by kernel_rfl) (by kernel_rfl), keyOf_kn 157 (.inl rfl), knV_inj⟩
def pairT : KeyT Try.prog 174 Knt := ⟨knV, SmK, kn_law 174 (by kernel_rfl) (by kernel_rfl) (by kernel_rfl), keyOf_kn 174 (.inr rfl), knV_inj⟩

/-- the cells of knots -/
def knC (L : List Knt) : List Value := L.flatMap fun k => [.int .i64 k.1, .int .i64 k.2.1, .int .i64 k.2.2]
def knL (L : List Knt) : List (List Int) := L.map fun k => [k.1, k.2.1, k.2.2]
theorem knC_app (L M : List Knt) : knC (L ++ M) = knC L ++ knC M := by simp [knC]
theorem knC_at {L : List Knt} : ∀ {j r : Nat}, j < L.length → r < 3 → (knC L)[j * 3 + r]? = some (.int .i64 (cv (knL L) j r)) := by
  induction L with
  | nil => intro j r h; simp at h
  | cons k l ih =>
    intro j r h hr
    cases j with
    | zero =>
      have : r = 0 ∨ r = 1 ∨ r = 2 := by omega
      rcases this with rfl | rfl | rfl <;> rfl
    | succ j =>
      have h2 := ih (j := j) (r := r) (by simpa using h) hr
      have e : (j + 1) * 3 + r = (j * 3 + r) + 3 := by omega
      rw [e]
      exact h2
/-- the struct of a forest -/
def foV (F : Fo) (ka : Option Addr) (kc m1 m2 : Nat) : Nat → Value := fun j => [Value.int .i64 F.n, .slice ka F.kn.length kc, .map (some m1), .map (some m2)][j]?.getD undef
/-- the forest of block t, whose blocks are in S -/
structure FoM (W : World) (S : Nat → Prop) (t : Nat) (ka : Option Addr) (kc m1 m2 : Nat) (F : Fo) : Prop where
  c : OwnP W t 4 (foV F ka kc m1 m2)
  k : OwnR W 0 157 3 (.slice ka F.kn.length kc) F.kn.length (knC F.kn)
  w : MpAt knotT W m1 F.kw
  j : MpAt pairT W m2 F.jn
  st : S t
  s1 : S m1
  s2 : S m2
  sk : ∀ b, (Value.slice ka F.kn.length kc).ownBlock = some b → S b ∧ b ≠ t
  n12 : m1 ≠ m2
  lt : ∀ b, S b → b < W.heap.size
  small : F.kn.length ≤ 900
def FoAt (W : World) (S : Nat → Prop) (t : Nat) (F : Fo) : Prop := ∃ ka kc m1 m2, FoM W S t ka kc m1 m2 F
/-- the blocks behind some steps -/
def Gw (S : Nat → Prop) (w w' : World) : Nat → Prop := fun b => S b ∨ (w.heap.size ≤ b ∧ b < w'.heap.size)
section
variable {W W' w w1 w2 : World} {S S' : Nat → Prop} {t kc m1 m2 : Nat} {ka : Option Addr} {F F1 F2 : Fo}
theorem MpAt.only {P : Program} {k : TypeId} {α : Type} [BEq α] [LawfulBEq α] {T : KeyT P k α} {m : Nat} {E : List (α × Int)} (h : MpAt T W m E) (g : Only S W W') (hs : ¬ S m) : MpAt T W' m E := h.stay (g.block m h.lt hs)
theorem FoM.only (h : FoM W S t ka kc m1 m2 F) (g : Only S' W W') (hd : ∀ b, S b → ¬ S' b) : FoM W' S t ka kc m1 m2 F :=
  ⟨h.c.only g (hd _ h.st), h.k.only g (fun b e => hd _ (h.sk b e).1), h.w.only g (hd _ h.s1), h.j.only g (hd _ h.s2), h.st, h.s1, h.s2, h.sk, h.n12, fun b hb => Nat.lt_of_lt_of_le (h.lt b hb) g.size, h.small⟩
theorem FoM.gr (h : FoM W S t ka kc m1 m2 F) (g : Gr W W') : FoM W' S t ka kc m1 m2 F := h.only (g.only (fun _ => False)) (fun _ _ e => e)
theorem FoM.mono (h : FoM W S t ka kc m1 m2 F) (hs : ∀ b, S b → S' b) (hl : ∀ b, S' b → b < W.heap.size) : FoM W S' t ka kc m1 m2 F :=
  ⟨h.c, h.k, h.w, h.j, hs _ h.st, hs _ h.s1, hs _ h.s2, fun b e => ⟨hs _ (h.sk b e).1, (h.sk b e).2⟩, h.n12, hl, h.small⟩
theorem FoAt.gr (h : FoAt W S t F) (g : Gr W W') : FoAt W' S t F := by obtain ⟨a, b, c, d, h⟩ := h; exact ⟨a, b, c, d, h.gr g⟩
theorem FoAt.only (h : FoAt W S t F) (g : Only S' W W') (hd : ∀ b, S b → ¬ S' b) : FoAt W' S t F := by obtain ⟨a, b, c, d, h⟩ := h; exact ⟨a, b, c, d, h.only g hd⟩
theorem FoAt.lt (h : FoAt W S t F) : ∀ b, S b → b < W.heap.size := by obtain ⟨a, b, c, d, h⟩ := h; exact h.lt
theorem FoAt.mono (h : FoAt W S t F) (hs : ∀ b, S b → S' b) (hl : ∀ b, S' b → b < W.heap.size) : FoAt W S' t F := by obtain ⟨a, b, c, d, h⟩ := h; exact ⟨a, b, c, d, h.mono hs hl⟩
theorem FoAt.wide (h : FoAt w2 S t F) (hs : ∀ b, S b → b < w1.heap.size) (hz : w1.heap.size ≤ w2.heap.size) : FoAt w2 (Gw S w1 w2) t F :=
  h.mono (fun b e => .inl e) (fun b e => e.elim (fun e => Nat.lt_of_lt_of_le (hs b e) hz) (fun e => e.2))
end
section
variable {W : World} {S : Nat → Prop} {t kc m1 m2 : Nat} {ka : Option Addr} {F : Fo}
theorem FoM.rows (h : FoM W S t ka kc m1 m2 F) : StAt W 3 ka F.kn.length (knL F.kn) := by
  have hs := h.small
  refine ⟨by simp [knL], by omega, fun j hj => ?_⟩
  rcases h.k.shape with ⟨h1, h2⟩ | ⟨g, c, h1, -, h3⟩
  · omega
  · injection h1 with h4 h5 h6
    subst h4 h6
    refine ⟨_, rfl, h3, ?_, fun r hr => ?_⟩
    · rw [List.getElem?_eq_getElem (by simp [knL]; exact hj)]; simp [knL]
    · have hp := h.k.ownP (val := fun i => (knC F.kn)[i]?.getD undef) (fun i u hu => by rw [hu]; rfl)
      have hc := hp.cell (k := j * 3 + r) (by omega)
      rw [knC_at hj hr] at hc
      rw [addr_add0 g (j * 3), Y.addr_add]
      exact hc
theorem branch_eq {n : Nat} {o r : Int} {wb : Bool} (h : F.branch (n : Int) o wb = some r) : n < F.kn.length ∧ r = if cv (knL F.kn) n 0 ≠ o then (n : Int) else if wb then cv (knL F.kn) n 2 else cv (knL F.kn) n 1 := by
  unfold Fo.branch Fo.at at h
  rw [if_pos (by omega), Int.toNat_natCast] at h
  by_cases hn : n < F.kn.length
  · rw [List.getElem?_eq_getElem hn] at h
    simp only [Option.map_some, Option.some.injEq] at h
    refine ⟨hn, ?_⟩
    have e : (knL F.kn)[n]? = some [(F.kn[n]).1, (F.kn[n]).2.1, (F.kn[n]).2.2] := by rw [knL, List.getElem?_map, List.getElem?_eq_getElem hn]; rfl
    rw [← h]
    simp [cv, e]
  · rw [List.getElem?_eq_none (by omega)] at h; simp at h
end
end
section
open Go.RowKit
set_option linter.unusedVariables false
section
variable {W0 W W' : World} {S : Nat → Prop} {t kc m1 m2 c8 : Nat} {ka a8 : Option Addr} {F : Fo} {k : Knt}
theorem FoM.tm (h : FoM W S t ka kc m1 m2 F) : t ≠ m1 ∧ t ≠ m2 := by
  obtain ⟨cs, ty, hb, -⟩ := h.c
  constructor
  · intro e; obtain ⟨es, ck, hm, -⟩ := h.w; rw [← e, hb] at hm; cases hm
  · intro e; obtain ⟨es, ck, hm, -⟩ := h.j; rw [← e, hb] at hm; cases hm
theorem FoM.km (h : FoM W S t ka kc m1 m2 F) : ∀ b, (Value.slice ka F.kn.length kc).ownBlock = some b → b ≠ m1 ∧ b ≠ m2 := by
  intro b hb
  rcases h.k.shape with ⟨h1, h2⟩ | ⟨g, c, h1, -, h3⟩
  · rw [h1] at hb; cases hb
  · rw [h1] at hb
    have hb : g = b := by simpa [Value.ownBlock] using hb
    subst hb
    have h9 := h.k
    rw [h1] at h9
    obtain ⟨cs, ty, hp, -⟩ := h9.ownP (val := fun i => (knC F.kn)[i]?.getD undef) (fun i u hu => by rw [hu]; rfl)
    constructor
    · intro e; obtain ⟨es, ck, hm, -⟩ := h.w; rw [← e, hp] at hm; cases hm
    · intro e; obtain ⟨es, ck, hm, -⟩ := h.j; rw [← e, hp] at hm; cases hm
theorem OwnR.form {w : World} {B e k n : Nat} {v : Value} {xs : List Value} (h : OwnR w B e k v n xs) : ∃ a c, v = .slice a n c := by
  rcases h.shape with ⟨h1, h2⟩ | ⟨g, c, h1, -⟩
  · exact ⟨none, 0, by rw [h1, h2]⟩
  · exact ⟨_, c, h1⟩
/-- behind the append and the store of the list -/
theorem FoM.pushed (h : FoM W0 S t ka kc m1 m2 F) (hn : F.kn.length < 900) (hO : OwnR W 0 157 3 (.slice a8 (F.kn.length + 1) c8) (F.kn.length + 1) (knC (F.kn ++ [k])))
    (hon : Only (fun b => (Value.slice ka F.kn.length kc).ownBlock = some b) W0 W) (hat : (Value.slice a8 (F.kn.length + 1) c8).ownBlock = (Value.slice ka F.kn.length kc).ownBlock ∨ ∃ b, (Value.slice a8 (F.kn.length + 1) c8).ownBlock = some b ∧ W0.heap.size ≤ b) :
    FoM (W.setCell ⟨t, 1, none⟩ (.slice a8 (F.kn.length + 1) c8)) (Gw S W0 (W.setCell ⟨t, 1, none⟩ (.slice a8 (F.kn.length + 1) c8))) t a8 c8 m1 m2 { F with kn := F.kn ++ [k] } ∧ Only S W0 (W.setCell ⟨t, 1, none⟩ (.slice a8 (F.kn.length + 1) c8)) := by
  have hS0 := h.lt
  have hsz := hon.size
  have hb8 : ∀ b, (Value.slice a8 (F.kn.length + 1) c8).ownBlock = some b → b < W.heap.size ∧ (S b ∨ W0.heap.size ≤ b) ∧ b ≠ t ∧ b ≠ m1 ∧ b ≠ m2 := by
    intro b hb
    refine ⟨(hO.ge hb).2, ?_⟩
    rcases hat with e | ⟨b', e, e2⟩
    · rw [e] at hb
      exact ⟨.inl (h.sk b hb).1, (h.sk b hb).2, (h.km b hb).1, (h.km b hb).2⟩
    · rw [e] at hb
      injection hb with hb
      subst hb
      have h1 := hS0 _ h.st
      have h2 := hS0 _ h.s1
      have h3 := hS0 _ h.s2
      exact ⟨.inr e2, by omega, by omega, by omega⟩
  have hc := h.c.only hon (fun e => (h.sk t e).2 rfl)
  have hw := h.w.only hon (fun e => (h.km m1 e).1 rfl)
  have hj := h.j.only hon (fun e => (h.km m2 e).2 rfl)
  have hs := Y.set_only W t 1 (.slice a8 (F.kn.length + 1) c8)
  have hset := (hc.set (k := 1) (.slice a8 (F.kn.length + 1) c8)).congr (val' := foV { F with kn := F.kn ++ [k] } a8 c8 m1 m2) (fun i hi => by
    have : i = 0 ∨ i = 1 ∨ i = 2 ∨ i = 3 := by omega
    rcases this with rfl | rfl | rfl | rfl
    · rfl
    · simp [foV]
    · rfl
    · rfl)
  have hz := hs.size
  have hl : (F.kn ++ [k]).length = F.kn.length + 1 := by simp
  refine ⟨⟨hset, ?_, hw.only hs (fun e => h.tm.1 e.symm), hj.only hs (fun e => h.tm.2 e.symm), .inl h.st, .inl h.s1, .inl h.s2, ?_, h.n12, ?_, by simp; omega⟩, ?_⟩
  · show OwnR _ 0 157 3 (.slice a8 (F.kn ++ [k]).length c8) (F.kn ++ [k]).length _
    rw [hl]
    exact hO.only hs (fun b e => (hb8 b e).2.2.1)
  · show ∀ b, (Value.slice a8 (F.kn ++ [k]).length c8).ownBlock = some b → _
    rw [hl]
    intro b e
    obtain ⟨h1, h2, h3, -⟩ := hb8 b e
    exact ⟨h2.elim .inl (fun e => .inr ⟨e, by omega⟩), h3⟩
  · rintro b (e | e)
    · have := hS0 b e; omega
    · exact e.2
  · refine (hon.mono (fun b _ e => (h.sk b e).1)).trans ⟨hs.os, hs.tape, hs.output, hs.size, fun i hi hn => hs.block i hi (fun e => hn (by rw [e]; exact h.st))⟩
/-- behind the store into the map of knots -/
theorem FoM.knew (h : FoM W S t ka kc m1 m2 F) {v : Int} {o : Obj} (hm : MpAt knotT (W.putObj m1 o) m1 (F.kw ++ [(k, v)])) : FoM (W.putObj m1 o) S t ka kc m1 m2 { F with kw := F.kw ++ [(k, v)] } ∧ Only S W (W.putObj m1 o) := by
  have hon : Only (fun b => b = m1) W (W.putObj m1 o) := Only.putObj (S := fun b => b = m1) (Only.refl _ W) (.inl rfl) o
  exact ⟨⟨h.c.only hon h.tm.1, h.k.only hon (fun b e => (h.km b e).1), hm, h.j.only hon h.n12.symm, h.st, h.s1, h.s2, h.sk, h.n12, fun b e => Nat.lt_of_lt_of_le (h.lt b e) hon.size, h.small⟩, hon.mono (fun i _ e => by rw [e]; exact h.s1)⟩
/-- behind the store into the map of pairs -/
theorem FoM.jnew (h : FoM W S t ka kc m1 m2 F) {v : Int} {o : Obj} (hm : MpAt pairT (W.putObj m2 o) m2 (F.jn ++ [(k, v)])) : FoM (W.putObj m2 o) S t ka kc m1 m2 { F with jn := F.jn ++ [(k, v)] } ∧ Only S W (W.putObj m2 o) := by
  have hon : Only (fun b => b = m2) W (W.putObj m2 o) := Only.putObj (S := fun b => b = m2) (Only.refl _ W) (.inl rfl) o
  exact ⟨⟨h.c.only hon h.tm.2, h.k.only hon (fun b e => (h.km b e).2), h.w.only hon h.n12, hm, h.st, h.s1, h.s2, h.sk, h.n12, fun b e => Nat.lt_of_lt_of_le (h.lt b e) hon.size, h.small⟩, hon.mono (fun i _ e => by rw [e]; exact h.s2)⟩
/-- growth, and two steps -/
theorem fo_join {w w0 w1 w2 : World} {F2 : Fo} (hz : ∀ b, S b → b < w.heap.size) (g0 : Gr w w0) (g1 : Only S w0 w1) (hM : FoAt w2 (Gw S w0 w1) t F2) (g2 : Only (Gw S w0 w1) w1 w2) : FoAt w2 (Gw S w w2) t F2 ∧ Only S w w2 := by
  have z0 := g0.size
  have z1 := g1.size
  have z2 := g2.size
  refine ⟨hM.mono ?_ ?_, ⟨g2.os.trans (g1.os.trans (Below.os g0)), g2.tape.trans (g1.tape.trans (Below.tape g0)), g2.output.trans (g1.output.trans (Below.output g0)), by omega, fun i hi hs => (g2.block i (by omega) (fun h => h.elim hs (fun h => by omega))).trans ((g1.block i (by omega) hs).trans (Below.block g0 i hi))⟩⟩
  · rintro b (e | e)
    · exact .inl e
    · exact .inr ⟨by omega, by omega⟩
  · rintro b (e | e)
    · have := hz b e; omega
    · exact e.2
theorem node_a {o l h r : Int} {F' : Fo} (e : l = h) (hb : F.node (o, l, h) = some (F', r)) : F' = F ∧ r = l := by
  unfold Fo.node at hb
  rw [if_pos (by exact e)] at hb
  injection hb with hb
  injection hb with h1 h2
  exact ⟨h1.symm, h2.symm⟩
theorem node_b {o l h r : Int} {F' : Fo} (e : ¬ l = h) (hb : F.node (o, l, h) = some (F', r)) : SmK (o, l, h) ∧ ((∃ n, getM F.kw (o, l, h) = some n ∧ F' = F ∧ r = n) ∨ (getM F.kw (o, l, h) = none ∧ F.kn.length < 900 ∧ F' = { F with kn := F.kn ++ [(o, l, h)], kw := F.kw ++ [((o, l, h), (F.kn.length : Int))] } ∧ r = (F.kn.length : Int))) := by
  unfold Fo.node at hb
  rw [if_neg (by exact e)] at hb
  split at hb
  · rename_i h1
    refine ⟨h1, ?_⟩
    split at hb
    · rename_i n hn
      injection hb with hb
      injection hb with h2 h3
      exact .inl ⟨n, hn, h2.symm, h3.symm⟩
    · rename_i hn
      split at hb
      · rename_i h9
        injection hb with hb
        injection hb with h2 h3
        exact .inr ⟨hn, h9, h2.symm, h3.symm⟩
      · cases hb
  · cases hb
theorem node_k {k : Knt} {r gv : Int} {F' : Fo} {A : Prop} (h : (∃ n, getM F.kw k = some n ∧ F' = F ∧ r = n) ∨ (getM F.kw k = none ∧ A)) (hb : (getM F.kw k).isSome = true) (hv : gv = (getM F.kw k).getD 0) : F' = F ∧ r = gv := by
  rcases h with ⟨n, h1, h2, h3⟩ | ⟨h1, -⟩
  · rw [h1] at hv; exact ⟨h2, by rw [h3, hv]; rfl⟩
  · rw [h1] at hb; cases hb
theorem node_n {k : Knt} {B : Int → Prop} {A : Prop} (h : (∃ n, getM F.kw k = some n ∧ B n) ∨ (getM F.kw k = none ∧ A)) (hb : (getM F.kw k).isSome = false) : getM F.kw k = none ∧ A := by
  rcases h with ⟨n, h1, -⟩ | h1
  · rw [h1] at hb; cases hb
  · exact h1
end
section
variable {P : Program} {o : Oper} {ρ : Operand → Value} {W W' : World}
theorem Y.lk {t : TypeId} {x y : Operand} {b : Bool} {p q v : Value} (ho : o.op = .lookup t x y b) (hx : ρ x = p) (hy : ρ y = q) (hr : (Instr.lookup t p q b).run P W = .ok v W) : (execOp ρ o).run P W = .ok (.value v) W := by
  unfold execOp; rw [ho]; simp only [hx, hy]; exact X.run_v hr
theorem Y.mu {t : TypeId} {x y z : Operand} {p q v : Value} (ho : o.op = .mapUpdate t x y z) (hx : ρ x = p) (hy : ρ y = q) (hz : ρ z = v) (hr : (Instr.mapUpdate t p q v).run P W = .ok () W') : (execOp ρ o).run P W = .ok .skip W' := by
  unfold execOp; rw [ho]; simp only [hx, hy, hz]; exact X.run_u hr
end
end
section
open Go.RowKit
set_option linter.unusedVariables false
theorem at_some {F : Fo} {x : Int} {k : Knt} (h : F.at x = some k) : ∃ n : Nat, x = n ∧ n < F.kn.length ∧ k.1 = cv (knL F.kn) n 0 := by
  unfold Fo.at at h
  split at h
  · rename_i h0
    obtain ⟨hn, he⟩ := List.getElem?_eq_some_iff.1 h
    refine ⟨x.toNat, by omega, hn, ?_⟩
    have e : (knL F.kn)[x.toNat]? = some [(F.kn[x.toNat]).1, (F.kn[x.toNat]).2.1, (F.kn[x.toNat]).2.2] := by rw [knL, List.getElem?_map, List.getElem?_eq_getElem hn]; rfl
    simp [cv, e, he]
  · cases h
theorem join_end {m : Nat} {F F' : Fo} {op a b r : Int} (h : a < 2 ∧ b < 2) (hb : Fo.join (m + 1) F op a b = some (F', r)) : F' = F ∧ r = endJ op a b := by
  unfold Fo.join at hb
  rw [if_pos h] at hb
  injection hb with hb
  injection hb with h1 h2
  exact ⟨h1.symm, h2.symm⟩
/-- the steps behind a pair that is not known -/
structure JSteps (m : Nat) (F F' : Fo) (op x y r : Int) (nx ny : Nat) (o a0 b0 lo a1 b1 hi : Int) (F1 F2 F3 : Fo) : Prop where
  ex : x = nx
  ey : y = ny
  lx : nx < F.kn.length
  ly : ny < F.kn.length
  eo : o = min (cv (knL F.kn) nx 0) (cv (knL F.kn) ny 0)
  ba0 : F.branch x o false = some a0
  bb0 : F.branch y o false = some b0
  j1 : Fo.join m F op a0 b0 = some (F1, lo)
  ba1 : F1.branch x o true = some a1
  bb1 : F1.branch y o true = some b1
  j2 : Fo.join m F1 op a1 b1 = some (F2, hi)
  nd : F2.node (o, lo, hi) = some (F3, r)
  fresh : getM F3.jn (op, x, y) = none
  res : F' = { F3 with jn := F3.jn ++ [((op, x, y), r)] }
theorem join_rest {m : Nat} {F F' : Fo} {op a b r : Int} (h : ¬ (a < 2 ∧ b < 2)) (hb : Fo.join (m + 1) F op a b = some (F', r)) {x y : Int} (hx : x = if b < a then b else a) (hy : y = if b < a then a else b) :
    SmK (op, x, y) ∧ ((∃ n, getM F.jn (op, x, y) = some n ∧ F' = F ∧ r = n) ∨ (getM F.jn (op, x, y) = none ∧ ∃ nx ny o a0 b0 lo a1 b1 hi F1 F2 F3, JSteps m F F' op x y r nx ny o a0 b0 lo a1 b1 hi F1 F2 F3)) := by
  unfold Fo.join at hb
  rw [if_neg h] at hb
  simp only at hb
  rw [← hx, ← hy] at hb
  split at hb
  · rename_i h1
    refine ⟨h1, ?_⟩
    split at hb
    · rename_i n hn
      injection hb with hb
      injection hb with h2 h3
      exact .inl ⟨n, hn, h2.symm, h3.symm⟩
    · rename_i hn
      refine .inr ⟨hn, ?_⟩
      obtain ⟨ka, hka, hb⟩ := Option.bind_eq_some_iff.1 hb
      obtain ⟨kb, hkb, hb⟩ := Option.bind_eq_some_iff.1 hb
      obtain ⟨a0, ha0, hb⟩ := Option.bind_eq_some_iff.1 hb
      obtain ⟨b0, hb0, hb⟩ := Option.bind_eq_some_iff.1 hb
      obtain ⟨⟨F1, lo⟩, h1, hb⟩ := Option.bind_eq_some_iff.1 hb
      obtain ⟨a1, ha1, hb⟩ := Option.bind_eq_some_iff.1 hb
      obtain ⟨b1, hb1, hb⟩ := Option.bind_eq_some_iff.1 hb
      obtain ⟨⟨F2, hi⟩, h2, hb⟩ := Option.bind_eq_some_iff.1 hb
      obtain ⟨⟨F3, r3⟩, h3, hb⟩ := Option.bind_eq_some_iff.1 hb
      split at hb
      · rename_i hf
        injection hb with hb
        injection hb with e1 e2
        obtain ⟨nx, ex, lx, ox⟩ := at_some hka
        obtain ⟨ny, ey, ly, oy⟩ := at_some hkb
        rw [ox, oy] at ha0 hb0 ha1 hb1 h3
        exact ⟨nx, ny, _, a0, b0, lo, a1, b1, hi, F1, F2, F3, ex, ey, lx, ly, rfl, ha0, hb0, h1, ha1, hb1, h2, by rw [← e2]; exact h3, hf, by rw [← e1, ← e2]⟩
      · cases hb
  · cases hb
theorem join_n {F : Fo} {k : Knt} {B : Int → Prop} {A : Prop} (h : (∃ n, getM F.jn k = some n ∧ B n) ∨ (getM F.jn k = none ∧ A)) (hb : (getM F.jn k).isSome = false) : getM F.jn k = none ∧ A := by
  rcases h with ⟨n, h1, -⟩ | h1
  · rw [h1] at hb; cases hb
  · exact h1
theorem join_k {F F' : Fo} {k : Knt} {r gv : Int} {A : Prop} (h : (∃ n, getM F.jn k = some n ∧ F' = F ∧ r = n) ∨ (getM F.jn k = none ∧ A)) (hb : (getM F.jn k).isSome = true) (hv : gv = (getM F.jn k).getD 0) : F' = F ∧ r = gv := by
  rcases h with ⟨n, h1, h2, h3⟩ | ⟨h1, -⟩
  · rw [h1] at hv; exact ⟨h2, by rw [h3, hv]; rfl⟩
  · rw [h1] at hb; cases hb
/-- a step on a forest behind others -/
theorem fo_next {S T : Nat → Prop} {w wb w0 w1 : World} (hT : Only S w wb) (hS : ∀ b, T b → Gw S w wb b) (g : Gr wb w0) (h1 : Only T w0 w1) : Only S w w1 ∧ ∀ b, Gw T w0 w1 b → Gw S w w1 b := by
  have z0 := hT.size
  have z1 := g.size
  have z2 := h1.size
  refine ⟨⟨h1.os.trans ((Below.os g).trans hT.os), h1.tape.trans ((Below.tape g).trans hT.tape), h1.output.trans ((Below.output g).trans hT.output), by omega, fun i hi hs => (h1.block i (by omega) (fun h => (hS i h).elim hs (fun h => by omega))).trans ((Below.block g i (by omega)).trans (hT.block i hi hs))⟩, ?_⟩
  rintro b (e | e)
  · exact (hS b e).elim .inl (fun e => .inr ⟨e.1, by omega⟩)
  · exact .inr ⟨by omega, e.2⟩
end
section
set_option linter.unusedVariables false
open Go.RowKit
namespace Y
variable {P : Program} {W W' : World} {o : Oper} {ρ : Operand → Value}
/-- a byte of a string -/
theorem inS {t : TypeId} {x y : Operand} {s : ByteArray} {k : Nat} {z : Int} (ho : o.op = .index t x y) (hx : ρ x = .string s) (hy : ρ y = .int .i64 z) (hu : P.underlying t = some .string) (hk : k < s.size) (hz : z = (k : Int)) : (execOp ρ o).run P W = .ok (.value (.int .u8 (((s[k]?.getD 0).toNat : Nat) : Int))) W := by
  subst hz
  have h1 : (0 : Int) ≤ k := by omega
  have h2 : s[k]? = some s[k] := getElem?_pos s k hk
  simp [execOp, ho, hx, hy, Instr.index, run_underlying hu, asIntOf, h1, h2, go_sem]
theorem lssU {t : TypeId} (_hu : P.underlying t = some (.int .u8)) {x y : Operand} {p q : Int} {b : Bool} (hb : decide (p < q) = b) : (do eqGuard .lss t x y (.int .u8 p) (.int .u8 q); binOp .lss t (.int .u8 p) (.int .u8 q) : Sem Value).run P W = .ok (.bool b) W := by
  subst hb; simp [eqGuard, binOp, go_sem]
theorem gtrU {t : TypeId} (_hu : P.underlying t = some (.int .u8)) {x y : Operand} {p q : Int} {b : Bool} (hb : decide (q < p) = b) : (do eqGuard .gtr t x y (.int .u8 p) (.int .u8 q); binOp .gtr t (.int .u8 p) (.int .u8 q) : Sem Value).run P W = .ok (.bool b) W := by
  subst hb; simp [eqGuard, binOp, go_sem]
/-- two strings -/
theorem eqlS {t : TypeId} {x y : Operand} (hu : P.underlying t = some .string) {p q : ByteArray} {b : Bool} (hb : (p.toList == q.toList) = b) : (do eqGuard .eql t x y (.string p) (.string q); binOp .eql t (.string p) (.string q) : Sem Value).run P W = .ok (.bool b) W := by
  subst hb
  simp [eqGuard, binOp, Op.stringOp, go_sem]
theorem add_zero (a : Addr) : a.add 0 = a := by unfold Addr.add; simp
/-- a slice from its beginning -/
theorem slH {t e : TypeId} {x y : Operand} {a : Option Addr} {n c k sz : Nat} {z : Int} (ho : o.op = .slice t x none (some y) none) (hx : ρ x = .slice a n c) (hy : ρ y = .int .i64 z) (hu : P.underlying t = some (.slice e)) (hS : (sizeOf e).run P W = .ok sz W) (hz : z = (k : Int)) (hk : k ≤ c) : (execOp ρ o).run P W = .ok (.value (.slice a k c)) W := by
  subst hz
  have h1 : (0 : Int) ≤ k ∧ (k : Int) ≤ c := by omega
  have e0 : (Option.map (fun x : Addr => x.add 0) a) = a := by cases a <;> simp [add_zero]
  have e1 : (if c = 0 then a else Option.map (fun x : Addr => x.add 0) a) = a := by rw [e0]; simp
  have h2 : (k : Int) ≤ c := h1.2
  simp only [execOp, ho, Option.map_none, Option.map_some, hx, hy]
  simp [Instr.sliceAt, Instr.slice, run_underlying hu, Instr.sliceBounds, Instr.sliceBound, asIntOf, h2, hS, go_sem, e1]
  intro h; omega
theorem neqS {t : TypeId} {x y : Operand} (hu : P.underlying t = some .string) {p q : ByteArray} {b : Bool} (hb : (!(p.toList == q.toList)) = b) : (do eqGuard .neq t x y (.string p) (.string q); binOp .neq t (.string p) (.string q) : Sem Value).run P W = .ok (.bool b) W := by
  subst hb
  simp [eqGuard, binOp, Op.stringOp, go_sem, bne]
end Y
section
variable {w w' : World} {k : Nat} {a : Option Addr} {n c : Nat} {V : Nat → Nat → Value}
end
end
section
open Go.RowKit
set_option linter.unusedVariables false
theorem grow_cons {m k : Nat} {F F' : Fo} {f st sf : List Int} (h : k < f.length) (hb : Fo.grow m F ((f.take (k + 1)).reverse) st = some (F', sf)) :
    opn (f[k]?.getD 0) ≤ st.length ∧ ∃ F1 v, Fo.sign m F (f[k]?.getD 0) st = some (F1, v) ∧ Fo.grow m F1 ((f.take k).reverse) (st.take (st.length - opn (f[k]?.getD 0)) ++ [v]) = some (F', sf) := by
  rw [List.take_succ_eq_append_getElem h, List.reverse_append] at hb
  rw [List.getElem?_eq_getElem h]
  simp only [List.reverse_cons, List.reverse_nil, List.nil_append, List.cons_append, Option.getD_some] at hb ⊢
  unfold Fo.grow at hb
  split at hb
  · rename_i hl
    obtain ⟨⟨F1, v⟩, h1, h2⟩ := Option.bind_eq_some_iff.1 hb
    exact ⟨hl, F1, v, h1, h2⟩
  · cases hb
theorem grow_nil {m : Nat} {F F' : Fo} {f st sf : List Int} (hb : Fo.grow m F ((f.take 0).reverse) st = some (F', sf)) : F' = F ∧ sf = st := by
  unfold Fo.grow at hb
  simp only [List.take_zero, List.reverse_nil] at hb
  injection hb with hb
  injection hb with h1 h2
  exact ⟨h1.symm, h2.symm⟩
theorem grown_eq {m : Nat} {F F' : Fo} {f : List Int} {r : Int} (hb : Fo.grown m F f = some (F', r)) : ∃ sf, Fo.grow m F ((f.take f.length).reverse) [] = some (F', sf) ∧ sf[0]? = some r := by
  unfold Fo.grown at hb
  obtain ⟨⟨F1, sf⟩, h1, h2⟩ := Option.bind_eq_some_iff.1 hb
  obtain ⟨x, h3, h4⟩ := Option.map_eq_some_iff.1 h2
  injection h4 with h5 h6
  exact ⟨sf, by rw [List.take_length, ← h5]; exact h1, by rw [← h6]; exact h3⟩
/-- a region with one call, a, behind which Q is so -/
structure RC1 (w : World) (a : Nat) (Q : World → Prop) (done : Nat → Bool) (u : Nat → Value) (W : World) : Prop where
  g : done a = false → Gr w W
  q : done a = true → Q W
section
variable {w W W' : World} {a i : Nat} {Q : World → Prop} {done : Nat → Bool} {u : Nat → Value} {v : Value}
theorem RC1.start {u : Nat → Value} (g : Gr w W) : RC1 w a Q (fun _ => false) u W := ⟨fun _ => g, fun h => by simp at h⟩
theorem RC1.quiet (h : RC1 w a Q done u W) (hi : (i == a) = false) : RC1 w a Q (upd done i) (fun j => if j = i then v else u j) W := by
  have e1 := upd_ne (done := done) (i := i) (j := a) (by intro e; simp [e] at hi)
  exact ⟨fun k => h.g (e1 ▸ k), fun k => h.q (e1 ▸ k)⟩
theorem RC1.sa (hq : Q W') : RC1 w a Q (upd done a) (fun j => if j = a then v else u j) W' :=
  ⟨fun k => (by rw [upd_self] at k; cases k), fun _ => hq⟩
end
/-- the beginning of an own row -/
theorem OwnR.takeN {w : World} {B e k n m : Nat} {a : Option Addr} {c : Nat} {xs : List Value} (h : OwnR w B e k (.slice a n c) n xs) (hm : m ≤ n) : OwnR w B e k (.slice a m c) m (xs.take (m * k)) := by
  obtain ⟨h1, h2⟩ := h
  have hmk : m * k ≤ n * k := Nat.mul_le_mul_right k hm
  refine ⟨by rw [List.length_take]; omega, ?_⟩
  rcases h2 with ⟨h3, h4⟩ | ⟨g, cap, cur, h3, h4, h5, h6, h7, h8, h9⟩
  · injection h3 with e1 e2 e3
    subst e1 e3
    have : m = 0 := by omega
    subst this
    exact .inl ⟨rfl, rfl⟩
  · injection h3 with e1 e2 e3
    subst e1 e3
    refine .inr ⟨g, c, cur, rfl, h4, h5, by omega, h7, h8, ?_⟩
    rw [← h9, List.take_take, Nat.min_eq_left hmk]
end
section
open Go.RowKit
theorem Try.agg157 (w : World) : (isAgg 157).run Try.prog w = .ok true w := by kernel_rfl
theorem Try.siz157 (w : World) : (sizeOf 157).run Try.prog w = .ok 3 w := by kernel_rfl
theorem Try.agg158 (w : World) : (isAgg 158).run Try.prog w = .ok false w := by kernel_rfl
theorem Try.siz158 (w : World) : (sizeOf 158).run Try.prog w = .ok 1 w := by kernel_rfl
theorem Try.agg159 (w : World) : (isAgg 159).run Try.prog w = .ok false w := by kernel_rfl
theorem Try.siz159 (w : World) : (sizeOf 159).run Try.prog w = .ok 1 w := by kernel_rfl
theorem Try.agg160 (w : World) : (isAgg 160).run Try.prog w = .ok false w := by kernel_rfl
theorem Try.siz160 (w : World) : (sizeOf 160).run Try.prog w = .ok 1 w := by kernel_rfl
theorem Try.agg174 (w : World) : (isAgg 174).run Try.prog w = .ok true w := by kernel_rfl
theorem Try.siz174 (w : World) : (sizeOf 174).run Try.prog w = .ok 3 w := by kernel_rfl
theorem Try.agg118 (w : World) : (isAgg 118).run Try.prog w = .ok false w := by kernel_rfl
theorem Try.siz118 (w : World) : (sizeOf 118).run Try.prog w = .ok 1 w := by kernel_rfl
theorem Try.agg119 (w : World) : (isAgg 119).run Try.prog w = .ok false w := by kernel_rfl
theorem Try.siz119 (w : World) : (sizeOf 119).run Try.prog w = .ok 1 w := by kernel_rfl
theorem Try.agg117 (w : World) : (isAgg 117).run Try.prog w = .ok false w := by kernel_rfl
theorem Try.siz117 (w : World) : (sizeOf 117).run Try.prog w = .ok 1 w := by kernel_rfl
theorem Try.agg121 (w : World) : (isAgg 121).run Try.prog w = .ok true w := by kernel_rfl
theorem Try.siz121 (w : World) : (sizeOf 121).run Try.prog w = .ok 2 w := by kernel_rfl
theorem Try.new157 (w : World) : (Instr.alloc 157 true (.tuple #[])).run Try.prog w = .ok (.pointer (some ⟨w.heap.size, 0, none⟩)) (w.alloc (.cells #[.int .i64 0, .int .i64 0, .int .i64 0] 157)) := by kernel_rfl
theorem Try.new174 (w : World) : (Instr.alloc 174 true (.tuple #[])).run Try.prog w = .ok (.pointer (some ⟨w.heap.size, 0, none⟩)) (w.alloc (.cells #[.int .i64 0, .int .i64 0, .int .i64 0] 174)) := by kernel_rfl
theorem Try.bs146_1 (a b c : Int) (w : World) : (Instr.buildSlice 158 1 #[(0, .agg #[.int .i64 a, .int .i64 b, .int .i64 c])]).run Try.prog w = .ok (.slice (some ⟨w.heap.size, 0, none⟩) 1 1) (w.alloc (.cells #[.int .i64 a, .int .i64 b, .int .i64 c] 157)) := by kernel_rfl
theorem Try.bs146_2 (a b c x y z : Int) (w : World) : (Instr.buildSlice 158 2 #[(0, .agg #[.int .i64 a, .int .i64 b, .int .i64 c]), (1, .agg #[.int .i64 x, .int .i64 y, .int .i64 z])]).run Try.prog w = .ok (.slice (some ⟨w.heap.size, 0, none⟩) 2 2) (w.alloc (.cells #[.int .i64 a, .int .i64 b, .int .i64 c, .int .i64 x, .int .i64 y, .int .i64 z] 157)) := by kernel_rfl
theorem Try.bs92_1 (x0 : Int) (w : World) : (Instr.buildSlice 118 1 #[(0, .int .i64 x0)]).run Try.prog w = .ok (.slice (some ⟨w.heap.size, 0, none⟩) 1 1) (w.alloc (.cells #[.int .i64 x0] 3)) := by kernel_rfl
theorem Try.bs92_3 (x0 x1 x2 : Int) (w : World) : (Instr.buildSlice 118 3 #[(0, .int .i64 x0), (1, .int .i64 x1), (2, .int .i64 x2)]).run Try.prog w = .ok (.slice (some ⟨w.heap.size, 0, none⟩) 3 3) (w.alloc (.cells #[.int .i64 x0, .int .i64 x1, .int .i64 x2] 3)) := by kernel_rfl
theorem Try.bs93_1 (a : Option Addr) (n c : Nat) (w : World) : (Instr.buildSlice 119 1 #[(0, .slice a n c)]).run Try.prog w = .ok (.slice (some ⟨w.heap.size, 0, none⟩) 1 1) (w.alloc (.cells #[.slice a n c] 118)) := by kernel_rfl
theorem Try.bs91_2 (a b : ByteArray) (w : World) : (Instr.buildSlice 117 2 #[(0, .string a), (1, .string b)]).run Try.prog w = .ok (.slice (some ⟨w.heap.size, 0, none⟩) 2 2) (w.alloc (.cells #[.string a, .string b] 9)) := by kernel_rfl
theorem Try.mk147 (w : World) : (Instr.makeMap 159 none).run Try.prog w = .ok (.map (some w.heap.size)) (w.alloc (.map #[] 0)) := by kernel_rfl
theorem Try.mk148 (w : World) : (Instr.makeMap 160 none).run Try.prog w = .ok (.map (some w.heap.size)) (w.alloc (.map #[] 0)) := by kernel_rfl
theorem Try.bd145 (a b c : Int) (W : World) : (Instr.build 157 #[(0, .int .i64 a), (1, .int .i64 b), (2, .int .i64 c)]).run Try.prog W = .ok (.agg #[.int .i64 a, .int .i64 b, .int .i64 c]) W := by kernel_rfl
theorem Try.bd157 (a b c : Int) (W : World) : (Instr.build 174 #[(0, .int .i64 a), (1, .int .i64 b), (2, .int .i64 c)]).run Try.prog W = .ok (.agg #[.int .i64 a, .int .i64 b, .int .i64 c]) W := by kernel_rfl
theorem Try.bd145x (a : Int) (W : World) : (Instr.build 157 #[(0, .int .i64 a)]).run Try.prog W = .ok (.agg #[.int .i64 a, .int .i64 0, .int .i64 0]) W := by kernel_rfl
theorem Try.info157 : (Try.prog.info? 157).map (fun i => (i.zero, i.size, i.bytes)) = some (some (.agg #[.int .i64 0, .int .i64 0, .int .i64 0]), 3, 24) := by kernel_rfl
end
section
open Go.RowKit

set_option maxRecDepth 100000 in
set_option maxHeartbeats 400000 in
theorem node_any (t : Nat) (S : Nat → Prop) (fo fo' : Fo) (o l h r : Int) (w : World) (hF : FoAt w S t fo) (hb : fo.node (o, l, h) = some (fo', r)) :
  Calls Try.prog 134 #[Vp t, Vi o, Vi l, Vi h] w fun e w' => e = .returned (Vi r) ∧ FoAt w' (Gw S w w') t fo' ∧ Only S w w' := by
 have G := Gr.refl w
 have hF0 := hF
 have hlt := hF.lt
 obtain ⟨gv, hgv⟩ : ∃ x, x = (getM fo.kw (o, l, h)).getD 0 := ⟨_, rfl⟩
 obtain ⟨gb, hgb⟩ : ∃ x, x = (getM fo.kw (o, l, h)).isSome := ⟨_, rfl⟩
 obtain ⟨ka, kc, m1, m2, hM⟩ := hF
 have hk := hM.rows
 have hsm := hM.small
 have hC : RCells w [(Ad t 0, Vi fo.n), (Ad t 1, .slice ka fo.kn.length kc), (Ad t 2, .map (some m1)), (Ad t 3, .map (some m2))] := (RCells.cons (hM.c.cell (k := 0) (by decide)) (RCells.cons (hM.c.cell (k := 1) (by decide)) (RCells.cons (hM.c.cell (k := 2) (by decide)) (RCells.cons (hM.c.cell (k := 3) (by decide)) (RCells.nil _)))))
 refine Y.calls 58 Try.func134 rfl rfl ?_
 intro ac F0
 have F : Fr ac 58 [(0, Vp t), (1, Vi o), (2, Vi l), (3, Vi h)] := F0.sub _
 clear F0
 refine Y.seq ?_
 refine Y.lit (by kernel_rfl) ?_
 refine Y.pv F (X.assign rfl (X.kc (Vi 0) rfl)) ?_;clear F ac;intro ac F
 refine Y.nil ?_
 replace F : Fr ac 58 [(0, Vp t), (1, Vi o), (2, Vi l), (3, Vi h)] := F.sub _
 refine X.thenN ?_
 refine Y.seq ?_
 refine Y.seq ?_
 refine Y.lit (by kernel_rfl) ?_
 refine Y.pv F (X.move rfl (F.e 2 rfl)) ?_;clear F ac;intro ac F
 refine Y.pv F (X.move rfl (F.e 3 rfl)) ?_;clear F ac;intro ac F
 refine Y.pv F (X.binop rfl (F.e 12 rfl) (F.e 13 rfl) (X.eqlI Try.underlying3 rfl)) ?_;clear F ac;intro ac F
 refine Y.nil ?_
 replace F : Fr ac 58 [(0, Vp t), (1, Vi o), (2, Vi l), (3, Vi h), (14, .bool ((l : Int) == h))] := F.sub _
 refine X.thenN ?_
 cases h3 : ((l : Int) == h) with
 | false =>
  try rw [h3] at F
  have h3p : ¬ (l : Int) = h := by simpa using h3
  obtain ⟨hsk, hcase⟩ := node_b h3p hb
  refine Y.condF (F.e 14 rfl) ?_
  refine Y.skip ?_
  refine X.thenN ?_
  refine Y.seq ?_
  refine Y.lit (by kernel_rfl) ?_
  refine Y.pv F (X.move rfl (F.e 1 rfl)) ?_;clear F ac;intro ac F
  refine Y.pv F (X.move rfl (F.e 2 rfl)) ?_;clear F ac;intro ac F
  refine Y.pv F (X.move rfl (F.e 3 rfl)) ?_;clear F ac;intro ac F
  refine Y.pv F (Y.bd rfl (Y.b3 (F.e 16 rfl) (F.e 17 rfl) (F.e 18 rfl)) (Try.bd145 o l h _)) ?_;clear F ac;intro ac F
  refine Y.pv F (Y.al rfl (Try.new157 _)) ?_;clear F ac;intro ac F
  refine Y.punit F (X.w0 rfl) rfl (X.store rfl (F.e 9 rfl) (F.e 19 rfl) (Y.stNew [Vi o, Vi l, Vi h] [Vi 0, Vi 0, Vi 0] (Try.siz157 _) rfl rfl)) ?_;clear F ac;intro ac F
  have hqS : ¬ S w.heap.size := fun e => by have := hlt _ e; have := G.size; omega
  have g := Gr.alloc w (.cells #[Vi o, Vi l, Vi h] 157)
  have hb := heap_alloc_new w (.cells #[Vi o, Vi l, Vi h] 157)
  have hbl : w.heap.size < (w.alloc (.cells #[Vi o, Vi l, Vi h] 157)).heap.size := by simp
  have hC2 : RCells (w.alloc (.cells #[Vi o, Vi l, Vi h] 157)) [(Ad t 0, Vi fo.n), (Ad t 1, .slice ka fo.kn.length kc), (Ad t 2, .map (some m1)), (Ad t 3, .map (some m2)), (Ad w.heap.size 0, Vi o), (Ad w.heap.size 1, Vi l), (Ad w.heap.size 2, Vi h)] := hC.box (b := w.heap.size) #[Vi o, Vi l, Vi h] 157 rfl
  generalize w.alloc (.cells #[Vi o, Vi l, Vi h] 157) = w4 at *
  replace G := G.trans g
  replace hC := hC2
  clear hC2
  replace hk := hk.gr g
  clear g hb hbl
  refine Y.nil ?_
  replace F : Fr ac 58 [(0, Vp t), (9, Vp w.heap.size)] := F.sub _
  refine X.thenN ?_
  refine Y.seq ?_
  refine Y.seq ?_
  refine Y.region F [some (Vp t), some (Vp t), some (.pointer (some ⟨t, 2, none⟩)), some (.map (some m1)), some (.agg #[Vi o, Vi l, Vi h]), some (.tuple #[Vi gv, .bool gb]), some (.tuple #[Vi gv, .bool gb]), some (Vi gv), some (.bool gb), some (Vi gv), some (.bool gb)] [] rfl ⟨by kernel_rfl, of_decide_eq_true (by kernel_rfl), by kernel_rfl, by kernel_rfl, by kernel_rfl⟩ ⟨?_, ?_, ?_, ?_, ?_, ?_, ?_, ?_, ?_, ?_, ?_, trivial⟩ ?_
  ·intro ac done u W Sx hR
   exact X.vl (X.move rfl (Sx.ev 0 (Vp t))) hR.st0
  ·intro ac done u W Sx hR
   exact X.vl (Y.nilC rfl (Sx.ev 21 (Vp t))) hR.st0
  ·intro ac done u W Sx hR
   exact X.vl (X.field rfl (Sx.ev 22 (Vp t)) (X.fld Try.underlying162 rfl (Try.siz159 _) rfl rfl)) hR.st0
  ·intro ac done u W Sx hR
   have g : Gr w4 W := hR.1
   exact X.vl (X.load rfl (Sx.ev 23 (.pointer (some ⟨t, 2, none⟩))) (X.ld1 (Try.agg159 _) ((hC.gr g).at 2 rfl))) hR.st0
  ·intro ac done u W Sx hR
   have g : Gr w4 W := hR.1
   exact X.vl (X.load rfl (Sx.ev 9 (Vp w.heap.size)) (X.ldN (Try.agg157 _) (Try.siz157 _) (Y.atz (⟨w.heap.size, 0, none⟩) (Y.AtFrom.cons ((hC.gr g).at 4 rfl) (Y.AtFrom.cons ((hC.gr g).at 5 rfl) (Y.AtFrom.cons ((hC.gr g).at 6 rfl) (Y.AtFrom.nil _ _ _))))))) hR.st0
  ·intro ac done u W Sx hR
   have g : Gr w4 W := hR.1
   have hq := mp_look (t := 159) (e := 3) (W := W) Try.underlying159 (Try.zero3 W) ((hM.gr (G.trans g)).w) (x := (o, l, h)) hsk
   rw [← hgv, ← hgb] at hq
   exact X.vl (Y.lk rfl (Sx.ev 24 (.map (some m1))) (Sx.ev 25 (.agg #[Vi o, Vi l, Vi h])) hq) hR.st0
  ·intro ac done u W Sx hR
   exact X.vl (X.move rfl (Sx.ev 26 (.tuple #[Vi gv, .bool gb]))) hR.st0
  ·intro ac done u W Sx hR
   exact X.vl (X.extract rfl (Sx.ev 20 (.tuple #[Vi gv, .bool gb])) rfl) hR.st0
  ·intro ac done u W Sx hR
   exact X.vl (X.extract rfl (Sx.ev 20 (.tuple #[Vi gv, .bool gb])) rfl) hR.st0
  ·intro ac done u W Sx hR
   exact X.vl (X.assign rfl (Sx.ev 27 (Vi gv))) hR.st0
  ·intro ac done u W Sx hR
   exact X.vl (X.assign rfl (Sx.ev 28 (.bool gb))) hR.st0
  intro ac u w5 hs hd hl ho hR
  have g : Gr w4 w5 := hR.1
  replace F : Fr ac 58 [(0, Vp t), (9, Vp w.heap.size), (10, Vi gv), (11, .bool gb)] := X.fr hs hd hl _ (by kernel_rfl)
  clear hs hd hl ho hR
  replace G := G.trans g
  replace hC := hC.gr g
  replace hk := hk.gr g
  clear g
  refine X.thenN ?_
  refine Y.seq ?_
  refine Y.lit (by kernel_rfl) ?_
  refine Y.pv F (X.move rfl (F.e 11 rfl)) ?_;clear F ac;intro ac F
  refine Y.nil ?_
  replace F : Fr ac 58 [(0, Vp t), (9, Vp w.heap.size), (10, Vi gv), (29, .bool gb)] := F.sub _
  refine X.thenN ?_
  cases h6 : gb with
  | false =>
   try rw [h6] at F
   obtain ⟨hnone, hn9, rfl, rfl⟩ := node_n hcase (by rw [← hgb]; exact h6)
   refine Y.condF (F.e 29 rfl) ?_
   refine Y.skip ?_
   refine X.thenN ?_
   refine Y.seq ?_
   have hM6 := hM.gr G
   refine region_xi F [some (Vp t), some (Vp t), some (Vp t), some (.pointer (some ⟨t, 1, none⟩)), some (.slice ka fo.kn.length kc), some (.agg #[Vi o, Vi l, Vi h]), none, none, some (Vp t), some (.pointer (some ⟨t, 1, none⟩)), none] (RAp w5 6 7 10 (fun v W => ∃ b, v = .slice (some ⟨b, 0, none⟩) 1 1 ∧ (∀ j u, ([Vi o, Vi l, Vi h] : List Value)[j]? = some u → W.cell? ((⟨b, 0, none⟩ : Addr).add j) = some u)) (fun v W => ∃ a8 c8, v = .slice a8 (fo.kn.length + 1) c8 ∧ OwnR W 0 157 3 (.slice a8 (fo.kn.length + 1) c8) (fo.kn.length + 1) (knC (fo.kn ++ [(o, l, h)])) ∧ Only (fun b => (Value.slice ka fo.kn.length kc).ownBlock = some b) w5 W ∧ ((Value.slice a8 (fo.kn.length + 1) c8).ownBlock = (Value.slice ka fo.kn.length kc).ownBlock ∨ ∃ b, (Value.slice a8 (fo.kn.length + 1) c8).ownBlock = some b ∧ w5.heap.size ≤ b)) (fun W => ∃ a8 c8, FoM W (Gw S w5 W) t a8 c8 m1 m2 { fo with kn := fo.kn ++ [(o, l, h)] } ∧ Only S w5 W)) rfl ⟨by kernel_rfl, of_decide_eq_true (by kernel_rfl), by kernel_rfl, by kernel_rfl, by kernel_rfl⟩ (fun _ => ⟨RAp.start (Gr.refl _), RAp.start (Gr.drew _)⟩) ⟨?_, ?_, ?_, ?_, ?_, ?_, ?_, ?_, ?_, ?_, ?_, trivial⟩ ?_
   ·intro ac done u W Sx hR
    exact X.vl (X.move rfl (Sx.ev 0 (Vp t))) (hR.quiet (by decide))
   ·intro ac done u W Sx hR
    exact X.vl (X.move rfl (Sx.ev 0 (Vp t))) (hR.quiet (by decide))
   ·intro ac done u W Sx hR
    exact X.vl (Y.nilC rfl (Sx.ev 32 (Vp t))) (hR.quiet (by decide))
   ·intro ac done u W Sx hR
    exact X.vl (X.field rfl (Sx.ev 33 (Vp t)) (X.fld Try.underlying162 rfl (Try.siz158 _) rfl rfl)) (hR.quiet (by decide))
   ·intro ac done u W Sx hR
    have g : Gr w5 W := hR.g (Sx.no 7 (by kernel_rfl)) (Sx.no 10 (by kernel_rfl))
    exact X.vl (X.load rfl (Sx.ev 34 (.pointer (some ⟨t, 1, none⟩))) (X.ld1 (Try.agg158 _) ((hC.gr g).at 1 rfl))) (hR.quiet (by decide))
   ·intro ac done u W Sx hR
    have g : Gr w5 W := hR.g (Sx.no 7 (by kernel_rfl)) (Sx.no 10 (by kernel_rfl))
    exact X.vl (X.load rfl (Sx.ev 9 (Vp w.heap.size)) (X.ldN (Try.agg157 _) (Try.siz157 _) (Y.atz (⟨w.heap.size, 0, none⟩) (Y.AtFrom.cons ((hC.gr g).at 4 rfl) (Y.AtFrom.cons ((hC.gr g).at 5 rfl) (Y.AtFrom.cons ((hC.gr g).at 6 rfl) (Y.AtFrom.nil _ _ _))))))) (hR.quiet (by decide))
   ·intro ac done u W Sx hR
    exact X.valN (X.w0 rfl) rfl (X.bs rfl (X.b1 (Sx.ev 36 (.agg #[Vi o, Vi l, Vi h]))) (Try.bs146_1 _ _ _ _)) (hR.s9 (by decide) (Sx.no 7 (by kernel_rfl)) (Sx.no 10 (by kernel_rfl)) (Gr.alloc _ _) ⟨_, rfl, cells_at (vs := [Vi o, Vi l, Vi h]) (World.alloc_heap_new _ _)⟩)
   ·intro ac done u W Sx hR
    have g : Gr w5 W := hR.g Sx.nd (Sx.no 10 (by kernel_rfl))
    obtain ⟨b9, e9, hb9⟩ := hR.g9 (Sx.an 6 (by kernel_rfl)) Sx.nd (Sx.no 10 (by kernel_rfl))
    refine X.law (X.w0 rfl) (fun K_ hK => wp_pushV Try.underlying158 Try.info157 rfl (by decide) rfl (Sx.ev 35 (.slice ka fo.kn.length kc)) ((Sx.own 6 37 rfl).trans e9) (hM6.k.gr g) (m := 1) (news := [Vi o, Vi l, Vi h]) rfl hb9 rfl (by omega) (by decide) (Nat.zero_le _) (fun v2 W2 hO2 hon hat => hK v2 W2 (fun x hx => by cases hx) (hR.s10 (by decide) (Sx.no 10 (by kernel_rfl)) ?_)))
    obtain ⟨a8, c8, rfl⟩ := hO2.form
    exact ⟨a8, c8, rfl, by rw [knC_app]; exact hO2, (g.only _).trans hon, hat.imp id (fun e => ⟨_, e, g.size⟩)⟩
   ·intro ac done u W Sx hR
    exact X.vl (Y.nilC rfl (Sx.ev 31 (Vp t))) (hR.quiet (by decide))
   ·intro ac done u W Sx hR
    exact X.vl (X.field rfl (Sx.ev 39 (Vp t)) (X.fld Try.underlying162 rfl (Try.siz158 _) rfl rfl)) (hR.quiet (by decide))
   ·intro ac done u W Sx hR
    obtain ⟨a8, c8, e9, hO9, hon9, hat9⟩ := hR.g10 (Sx.an 7 (by kernel_rfl)) Sx.nd
    exact X.unit (X.w0 rfl) rfl (X.store rfl (Sx.ev 40 (.pointer (some ⟨t, 1, none⟩))) ((Sx.own 7 38 rfl).trans e9) ((hM6.c.only hon9 (fun e => (hM6.sk t e).2 rfl)).st1 (Try.siz158 _) rfl rfl (by decide))) (RAp.s13 ⟨a8, c8, hM6.pushed hn9 hO9 hon9 hat9⟩)
   rintro ac u w7 hs hd hl_ ho hR
   obtain ⟨a8, c8, hM7, hon7⟩ := hR.g13 rfl
   replace F : Fr ac 58 [(0, Vp t), (9, Vp w.heap.size)] := X.fr hs hd hl_ _ (by kernel_rfl)
   clear hs hd hl_ ho hR
   have hl9 : (fo.kn ++ [(o, l, h)]).length = fo.kn.length + 1 := by simp
   have G6 := G
   have hC6 := hC
   clear G hC hM hk
   have hM := hM7
   have G := Gr.refl w7
   have hC : RCells w7 [(Ad w.heap.size 0, Vi o), (Ad w.heap.size 1, Vi l), (Ad w.heap.size 2, Vi h), (Ad t 1, .slice a8 ((fo.kn ++ [(o, l, h)]).length) c8), (Ad t 2, .map (some m1))] := (RCells.cons (hon7.cell (hC6.at 4 rfl) hqS) (RCells.cons (hon7.cell (hC6.at 5 rfl) hqS) (RCells.cons (hon7.cell (hC6.at 6 rfl) hqS) (RCells.cons (hM7.c.cell (k := 1) (by decide)) (RCells.cons (hM7.c.cell (k := 2) (by decide)) (RCells.nil _))))))
   refine X.thenN ?_
   refine Y.seq ?_
   obtain ⟨S7, hS7⟩ : ∃ T, T = Gw S w5 w7 := ⟨_, rfl⟩
   rw [← hS7] at hM
   refine Y.regionS F [some (Vp t), some (Vp t), some (.pointer (some ⟨t, 2, none⟩)), some (.map (some m1)), some (.agg #[Vi o, Vi l, Vi h]), some (Vp t), some (Vp t), some (.pointer (some ⟨t, 1, none⟩)), some (.slice a8 ((fo.kn ++ [(o, l, h)]).length) c8), some (Vi ((fo.kn ++ [(o, l, h)]).length)), some (Vi (((fo.kn ++ [(o, l, h)]).length : Int) - 1)), none] [] 11 (fun _ W => FoM W S7 t a8 c8 m1 m2 { fo with kn := fo.kn ++ [(o, l, h)], kw := fo.kw ++ [((o, l, h), ((fo.kn ++ [(o, l, h)]).length : Int) - 1)] } ∧ Only S7 w7 W) rfl ⟨by kernel_rfl, of_decide_eq_true (by kernel_rfl), by kernel_rfl, by kernel_rfl, by kernel_rfl⟩ (of_decide_eq_true (by kernel_rfl)) ⟨?_, ?_, ?_, ?_, ?_, ?_, ?_, ?_, ?_, ?_, ?_, ?_, trivial⟩ ?_
   ·intro ac done u W Sx hT
    have hs := Sx.no 11 (by kernel_rfl)
    have hR := hT.1 hs
    exact X.vl (X.move rfl (Sx.ev 0 (Vp t))) (Y.RT.of hs rfl hR.st0)
   ·intro ac done u W Sx hT
    have hs := Sx.no 11 (by kernel_rfl)
    have hR := hT.1 hs
    exact X.vl (Y.nilC rfl (Sx.ev 41 (Vp t))) (Y.RT.of hs rfl hR.st0)
   ·intro ac done u W Sx hT
    have hs := Sx.no 11 (by kernel_rfl)
    have hR := hT.1 hs
    exact X.vl (X.field rfl (Sx.ev 42 (Vp t)) (X.fld Try.underlying162 rfl (Try.siz159 _) rfl rfl)) (Y.RT.of hs rfl hR.st0)
   ·intro ac done u W Sx hT
    have hs := Sx.no 11 (by kernel_rfl)
    have hR := hT.1 hs
    have g : Gr w7 W := hR.1
    exact X.vl (X.load rfl (Sx.ev 43 (.pointer (some ⟨t, 2, none⟩))) (X.ld1 (Try.agg159 _) ((hC.gr g).at 4 rfl))) (Y.RT.of hs rfl hR.st0)
   ·intro ac done u W Sx hT
    have hs := Sx.no 11 (by kernel_rfl)
    have hR := hT.1 hs
    have g : Gr w7 W := hR.1
    exact X.vl (X.load rfl (Sx.ev 9 (Vp w.heap.size)) (X.ldN (Try.agg157 _) (Try.siz157 _) (Y.atz (⟨w.heap.size, 0, none⟩) (Y.AtFrom.cons ((hC.gr g).at 0 rfl) (Y.AtFrom.cons ((hC.gr g).at 1 rfl) (Y.AtFrom.cons ((hC.gr g).at 2 rfl) (Y.AtFrom.nil _ _ _))))))) (Y.RT.of hs rfl hR.st0)
   ·intro ac done u W Sx hT
    have hs := Sx.no 11 (by kernel_rfl)
    have hR := hT.1 hs
    exact X.vl (X.move rfl (Sx.ev 0 (Vp t))) (Y.RT.of hs rfl hR.st0)
   ·intro ac done u W Sx hT
    have hs := Sx.no 11 (by kernel_rfl)
    have hR := hT.1 hs
    exact X.vl (Y.nilC rfl (Sx.ev 46 (Vp t))) (Y.RT.of hs rfl hR.st0)
   ·intro ac done u W Sx hT
    have hs := Sx.no 11 (by kernel_rfl)
    have hR := hT.1 hs
    exact X.vl (X.field rfl (Sx.ev 47 (Vp t)) (X.fld Try.underlying162 rfl (Try.siz158 _) rfl rfl)) (Y.RT.of hs rfl hR.st0)
   ·intro ac done u W Sx hT
    have hs := Sx.no 11 (by kernel_rfl)
    have hR := hT.1 hs
    have g : Gr w7 W := hR.1
    exact X.vl (X.load rfl (Sx.ev 48 (.pointer (some ⟨t, 1, none⟩))) (X.ld1 (Try.agg158 _) ((hC.gr g).at 3 rfl))) (Y.RT.of hs rfl hR.st0)
   ·intro ac done u W Sx hT
    have hs := Sx.no 11 (by kernel_rfl)
    have hR := hT.1 hs
    exact X.vl (X.len1 Try.underlying158 rfl (Sx.ev 49 (.slice a8 ((fo.kn ++ [(o, l, h)]).length) c8))) (Y.RT.of hs rfl hR.st0)
   ·intro ac done u W Sx hT
    have hs := Sx.no 11 (by kernel_rfl)
    have hR := hT.1 hs
    exact X.vl (X.binop rfl (Sx.ev 50 (Vi ((fo.kn ++ [(o, l, h)]).length))) (X.kc (Vi 1) rfl) (X.subI Try.underlying3 rfl (by omega) (by omega))) (Y.RT.of hs rfl hR.st0)
   ·intro ac done u W Sx hT
    have hR := hT.1 Sx.nd
    have g : Gr w7 W := hR.1
    obtain ⟨ob, hrun, hmp⟩ := mp_store (t := 159) (e := 3) Try.underlying159 ((hM.gr (G.trans g)).w) (x := (o, l, h)) (v := ((fo.kn ++ [(o, l, h)]).length : Int) - 1) hsk hnone
    exact X.unit (X.w0 rfl) rfl (Y.mu rfl (Sx.ev 44 (.map (some m1))) (Sx.ev 45 (.agg #[Vi o, Vi l, Vi h])) (Sx.ev 51 (Vi (((fo.kn ++ [(o, l, h)]).length : Int) - 1))) hrun) (Y.RT.fin ⟨((hM.gr (G.trans g)).knew hmp).1, (g.only _).trans ((hM.gr (G.trans g)).knew hmp).2⟩)
   rintro ac u w8 hs hd hl_ ho ⟨hM8, hon8⟩
   replace F : Fr ac 58 [(0, Vp t)] := X.fr hs hd hl_ _ (by kernel_rfl)
   clear hs hd hl_ ho
   subst hS7
   clear hC G
   have G := Gr.refl w8
   have hC : RCells w8 [(Ad t 1, .slice a8 ((fo.kn ++ [(o, l, h)]).length) c8)] := (RCells.cons (hM8.c.cell (k := 1) (by decide)) (RCells.nil _))
   refine X.thenN ?_
   refine Y.seq ?_
   refine Y.lit (by kernel_rfl) ?_
   refine Y.pv F (X.move rfl (F.e 0 rfl)) ?_;clear F ac;intro ac F
   refine Y.pv F (Y.nilC rfl (F.e 52 rfl)) ?_;clear F ac;intro ac F
   refine Y.pv F (X.field rfl (F.e 53 rfl) (X.fld Try.underlying162 rfl (Try.siz158 _) rfl rfl)) ?_;clear F ac;intro ac F
   refine Y.pv F (X.load rfl (F.e 54 rfl) (X.ld1 (Try.agg158 _) (hC.at 0 rfl))) ?_;clear F ac;intro ac F
   refine Y.pv F (X.len1 Try.underlying158 rfl (F.e 55 rfl)) ?_;clear F ac;intro ac F
   refine Y.pv F (X.binop rfl (F.e 56 rfl) (X.kc (Vi 1) rfl) (X.subI Try.underlying3 rfl (by omega) (by omega))) ?_;clear F ac;intro ac F
   refine Y.pv F (X.assign rfl (F.e 57 rfl)) ?_;clear F ac;intro ac F
   refine Y.nil ?_
   replace F : Fr ac 58 [(8, Vi (((fo.kn ++ [(o, l, h)]).length : Int) - 1))] := F.sub _
   refine X.thenN ?_
   refine Y.ret ?_
   have e9 : (((fo.kn ++ [(o, l, h)]).length : Int) - 1) = (fo.kn.length : Int) := by omega
   rw [e9] at hM8
   exact Y.ret0 (v := Vi (((fo.kn ++ [(o, l, h)]).length : Int) - 1)) F (Y.rs1 F rfl (by kernel_rfl)) ⟨by rw [e9], fo_join hlt G6 hon7 ⟨_, _, _, _, hM8⟩ hon8⟩
  | true =>
   try rw [h6] at F
   obtain ⟨e1, e2⟩ := node_k hcase (by rw [← hgb]; exact h6) hgv
   refine Y.condT (F.e 29 rfl) ?_
   refine Y.seq ?_
   refine Y.lit (by kernel_rfl) ?_
   refine Y.pv F (X.move rfl (F.e 10 rfl)) ?_;clear F ac;intro ac F
   refine Y.pv F (X.assign rfl (F.e 30 rfl)) ?_;clear F ac;intro ac F
   refine Y.nil ?_
   replace F : Fr ac 58 [(8, Vi gv)] := F.sub _
   refine X.thenN ?_
   refine Y.ret ?_
   refine X.thenR ?_
   subst e1
   exact Y.ret0 (v := Vi gv) F (Y.rs1 F rfl (by kernel_rfl)) ⟨by rw [e2], (hF0.gr G).wide hlt G.size, G.only _⟩
 | true =>
  try rw [h3] at F
  have h3p : (l : Int) = h := by simpa using h3
  refine Y.condT (F.e 14 rfl) ?_
  refine Y.seq ?_
  refine Y.lit (by kernel_rfl) ?_
  refine Y.pv F (X.move rfl (F.e 2 rfl)) ?_;clear F ac;intro ac F
  refine Y.pv F (X.assign rfl (F.e 15 rfl)) ?_;clear F ac;intro ac F
  refine Y.nil ?_
  replace F : Fr ac 58 [(8, Vi l)] := F.sub _
  refine X.thenN ?_
  refine Y.ret ?_
  refine X.thenR ?_
  obtain ⟨e1, e2⟩ := node_a h3p hb
  subst e1
  exact Y.ret0 (v := Vi l) F (Y.rs1 F rfl (by kernel_rfl)) ⟨by rw [e2], (hF0.gr G).wide hlt G.size, G.only _⟩
end
section
open Go.RowKit

set_option maxRecDepth 100000 in
set_option maxHeartbeats 400000 in
theorem branch_any (t : Nat) (S : Nat → Prop) (fo : Fo) (n : Nat) (o r : Int) (wb : Bool) (w : World) (hF : FoAt w S t fo) (hb : fo.branch (n : Int) o wb = some r) :
  Calls Try.prog 133 #[Vp t, Vi n, Vi o, .bool wb] w fun e w' => e = .returned (Vi r) ∧ Gr w w' := by
 have G := Gr.refl w
 obtain ⟨hn, hr⟩ := branch_eq hb
 obtain ⟨ka, kc, m1, m2, hM⟩ := hF
 have hk := hM.rows
 have hsm := hM.small
 have hC : RCells w [(Ad t 0, Vi fo.n), (Ad t 1, .slice ka fo.kn.length kc), (Ad t 2, .map (some m1)), (Ad t 3, .map (some m2))] := (RCells.cons (hM.c.cell (k := 0) (by decide)) (RCells.cons (hM.c.cell (k := 1) (by decide)) (RCells.cons (hM.c.cell (k := 2) (by decide)) (RCells.cons (hM.c.cell (k := 3) (by decide)) (RCells.nil _)))))
 refine Y.calls 29 Try.func133 rfl rfl ?_
 intro ac F0
 have F : Fr ac 29 [(0, Vp t), (1, Vi n), (2, Vi o), (3, .bool wb)] := F0.sub _
 clear F0
 refine Y.seq ?_
 refine Y.lit (by kernel_rfl) ?_
 refine Y.pv F (X.assign rfl (X.kc (Vi 0) rfl)) ?_;clear F ac;intro ac F
 refine Y.nil ?_
 replace F : Fr ac 29 [(0, Vp t), (1, Vi n), (2, Vi o), (3, .bool wb)] := F.sub _
 refine X.thenN ?_
 refine Y.seq ?_
 refine Y.lit (by kernel_rfl) ?_
 refine Y.pv F (X.move rfl (F.e 0 rfl)) ?_;clear F ac;intro ac F
 refine Y.pv F (Y.nilC rfl (F.e 10 rfl)) ?_;clear F ac;intro ac F
 refine Y.pv F (X.field rfl (F.e 11 rfl) (X.fld Try.underlying162 rfl (Try.siz158 _) rfl rfl)) ?_;clear F ac;intro ac F
 refine Y.pv F (X.load rfl (F.e 12 rfl) (X.ld1 (Try.agg158 _) (hC.at 1 rfl))) ?_;clear F ac;intro ac F
 refine Y.pv F (X.move rfl (F.e 1 rfl)) ?_;clear F ac;intro ac F
 obtain ⟨pd3, pe3, -, -, pc3⟩ := hk.at (j := n) (by omega)
 subst pe3
 replace hC : RCells w [(Ad t 0, Vi fo.n), (Ad t 1, .slice (some pd3) fo.kn.length kc), (Ad t 2, .map (some m1)), (Ad t 3, .map (some m2)), (pd3.add (n * 3), Vi (cv (knL fo.kn) n 0)), (⟨(pd3.add (n * 3)).block, (pd3.add (n * 3)).off + 1, none⟩, Vi (cv (knL fo.kn) n 1)), (⟨(pd3.add (n * 3)).block, (pd3.add (n * 3)).off + 2, none⟩, Vi (cv (knL fo.kn) n 2))] := hC.append ((RCells.cons (pc3 0 (by decide)) (RCells.cons (pc3 1 (by decide)) (RCells.cons (pc3 2 (by decide)) (RCells.nil _)))))
 clear pc3
 refine Y.pv F (X.index rfl (F.e 13 rfl) (F.e 14 rfl) (X.idx (k := n) Try.underlying158 (Try.siz157 _) (by omega) (by omega) rfl)) ?_;clear F ac;intro ac F
 refine Y.pv F (X.load rfl (F.e 15 rfl) (X.ldN (Try.agg157 _) (Try.siz157 _) (Y.atz (pd3.add (n * 3)) (Y.AtFrom.cons (hC.at 4 rfl) (Y.AtFrom.cons (hC.at 5 rfl) (Y.AtFrom.cons (hC.at 6 rfl) (Y.AtFrom.nil _ _ _))))))) ?_;clear F ac;intro ac F
 refine Y.pv F (Y.al rfl (Try.new157 _)) ?_;clear F ac;intro ac F
 refine Y.punit F (X.w0 rfl) rfl (X.store rfl (F.e 9 rfl) (F.e 16 rfl) (Y.stNew [Vi (cv (knL fo.kn) n 0), Vi (cv (knL fo.kn) n 1), Vi (cv (knL fo.kn) n 2)] [Vi 0, Vi 0, Vi 0] (Try.siz157 _) rfl rfl)) ?_;clear F ac;intro ac F
 have g := Gr.alloc w (.cells #[Vi (cv (knL fo.kn) n 0), Vi (cv (knL fo.kn) n 1), Vi (cv (knL fo.kn) n 2)] 157)
 have hb := heap_alloc_new w (.cells #[Vi (cv (knL fo.kn) n 0), Vi (cv (knL fo.kn) n 1), Vi (cv (knL fo.kn) n 2)] 157)
 have hbl : w.heap.size < (w.alloc (.cells #[Vi (cv (knL fo.kn) n 0), Vi (cv (knL fo.kn) n 1), Vi (cv (knL fo.kn) n 2)] 157)).heap.size := by simp
 have hC2 : RCells (w.alloc (.cells #[Vi (cv (knL fo.kn) n 0), Vi (cv (knL fo.kn) n 1), Vi (cv (knL fo.kn) n 2)] 157)) [(Ad t 0, Vi fo.n), (Ad t 1, .slice (some pd3) fo.kn.length kc), (Ad t 2, .map (some m1)), (Ad t 3, .map (some m2)), (pd3.add (n * 3), Vi (cv (knL fo.kn) n 0)), (⟨(pd3.add (n * 3)).block, (pd3.add (n * 3)).off + 1, none⟩, Vi (cv (knL fo.kn) n 1)), (⟨(pd3.add (n * 3)).block, (pd3.add (n * 3)).off + 2, none⟩, Vi (cv (knL fo.kn) n 2)), (Ad w.heap.size 0, Vi (cv (knL fo.kn) n 0)), (Ad w.heap.size 1, Vi (cv (knL fo.kn) n 1)), (Ad w.heap.size 2, Vi (cv (knL fo.kn) n 2))] := hC.box (b := w.heap.size) #[Vi (cv (knL fo.kn) n 0), Vi (cv (knL fo.kn) n 1), Vi (cv (knL fo.kn) n 2)] 157 rfl
 generalize w.alloc (.cells #[Vi (cv (knL fo.kn) n 0), Vi (cv (knL fo.kn) n 1), Vi (cv (knL fo.kn) n 2)] 157) = w4 at *
 replace G := G.trans g
 replace hC := hC2
 clear hC2
 replace hk := hk.gr g
 clear g hb hbl
 refine Y.nil ?_
 replace F : Fr ac 29 [(1, Vi n), (2, Vi o), (3, .bool wb), (9, Vp w.heap.size)] := F.sub _
 refine X.thenN ?_
 refine Y.block ?_
 refine Y.seq ?_
 refine Y.lit (by kernel_rfl) ?_
 refine Y.pv F (X.field rfl (F.e 9 rfl) (X.fld Try.underlying157 rfl (Try.siz3 _) rfl rfl)) ?_;clear F ac;intro ac F
 refine Y.pv F (X.load rfl (F.e 20 rfl) (X.ld1 (Try.agg3 _) (hC.at 7 rfl))) ?_;clear F ac;intro ac F
 refine Y.pv F (X.move rfl (F.e 2 rfl)) ?_;clear F ac;intro ac F
 refine Y.pv F (X.binop rfl (F.e 21 rfl) (F.e 22 rfl) (X.neqI Try.underlying3 rfl)) ?_;clear F ac;intro ac F
 refine Y.pv F (X.assign rfl (F.e 23 rfl)) ?_;clear F ac;intro ac F
 refine Y.nil ?_
 replace F : Fr ac 29 [(1, Vi n), (3, .bool wb), (9, Vp w.heap.size), (19, .bool ((cv (knL fo.kn) n 0 : Int) != o))] := F.sub _
 refine X.thenN ?_
 cases h5 : ((cv (knL fo.kn) n 0 : Int) != o) with
 | false =>
  try rw [h5] at F
  have h5p : (cv (knL fo.kn) n 0 : Int) = o := by simpa using h5
  refine Y.condF (F.e 19 rfl) ?_
  refine Y.seq ?_
  refine Y.lit (by kernel_rfl) ?_
  refine Y.pv F (X.move rfl (F.e 3 rfl)) ?_;clear F ac;intro ac F
  refine Y.pv F (X.assign rfl (F.e 26 rfl)) ?_;clear F ac;intro ac F
  refine Y.nil ?_
  replace F : Fr ac 29 [(9, Vp w.heap.size), (25, .bool wb)] := F.sub _
  refine X.thenN ?_
  cases h6 : wb with
  | false =>
   try rw [h6] at F
   refine Y.condF (F.e 25 rfl) ?_
   refine Y.seq ?_
   refine Y.lit (by kernel_rfl) ?_
   refine Y.pv F (X.field rfl (F.e 9 rfl) (X.fld Try.underlying157 rfl (Try.siz3 _) rfl rfl)) ?_;clear F ac;intro ac F
   refine Y.pv F (X.load rfl (F.e 17 rfl) (X.ld1 (Try.agg3 _) (hC.at 8 rfl))) ?_;clear F ac;intro ac F
   refine Y.pv F (X.assign rfl (F.e 18 rfl)) ?_;clear F ac;intro ac F
   refine Y.nil ?_
   replace F : Fr ac 29 [(8, Vi (cv (knL fo.kn) n 1))] := F.sub _
   refine X.thenN ?_
   refine Y.ret ?_
   refine X.blockR ?_
   exact Y.ret0 (v := Vi (cv (knL fo.kn) n 1)) F (Y.rs1 F rfl (by kernel_rfl)) ⟨by rw [hr]; simp [h5, h5p, h6], G⟩
  | true =>
   try rw [h6] at F
   refine Y.condT (F.e 25 rfl) ?_
   refine Y.seq ?_
   refine Y.lit (by kernel_rfl) ?_
   refine Y.pv F (X.field rfl (F.e 9 rfl) (X.fld Try.underlying157 rfl (Try.siz3 _) rfl rfl)) ?_;clear F ac;intro ac F
   refine Y.pv F (X.load rfl (F.e 27 rfl) (X.ld1 (Try.agg3 _) (hC.at 9 rfl))) ?_;clear F ac;intro ac F
   refine Y.pv F (X.assign rfl (F.e 28 rfl)) ?_;clear F ac;intro ac F
   refine Y.nil ?_
   replace F : Fr ac 29 [(8, Vi (cv (knL fo.kn) n 2))] := F.sub _
   refine X.thenN ?_
   refine Y.ret ?_
   refine X.blockR ?_
   exact Y.ret0 (v := Vi (cv (knL fo.kn) n 2)) F (Y.rs1 F rfl (by kernel_rfl)) ⟨by rw [hr]; simp [h5, h5p, h6], G⟩
 | true =>
  try rw [h5] at F
  have h5p : ¬ (cv (knL fo.kn) n 0 : Int) = o := by simpa using h5
  refine Y.condT (F.e 19 rfl) ?_
  refine Y.seq ?_
  refine Y.lit (by kernel_rfl) ?_
  refine Y.pv F (X.move rfl (F.e 1 rfl)) ?_;clear F ac;intro ac F
  refine Y.pv F (X.assign rfl (F.e 24 rfl)) ?_;clear F ac;intro ac F
  refine Y.nil ?_
  replace F : Fr ac 29 [(8, Vi n)] := F.sub _
  refine X.thenN ?_
  refine Y.ret ?_
  refine X.blockR ?_
  exact Y.ret0 (v := Vi n) F (Y.rs1 F rfl (by kernel_rfl)) ⟨by rw [hr]; simp [h5, h5p], G⟩
end
section
/-- the branches of a test meet again -/
theorem Y.seqJ {P : Program} {ro : Option Nat} {x y : Code} {Q : Exit → Act → World → Prop} {A : Act} {W : World} (J : Act → World → Prop) (h : x.wpIn (FW ro) 0 P (Exit.then J Q) A W) (hJ : ∀ A W, J A W → y.wpIn (FW ro) 0 P Q A W) : (Code.seq x y).wpIn (FW ro) 0 P Q A W :=
  wpIn_seq (wpIn_mono h (fun e a w hq => by
    cases e with
    | normal => exact hJ _ _ hq
    | exit id => exact hq
    | goto l => exact hq
    | ret => exact hq
    | panic ch => exact hq
    | outgrown => exact hq))
end
end Go.Proofs.Ytaidcocjcidggaa
