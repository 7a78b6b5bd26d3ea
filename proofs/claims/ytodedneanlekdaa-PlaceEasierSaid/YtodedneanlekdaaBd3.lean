/- Several texts of this claim in one file. (1) What the search stands on: calls of yield as operations, regions with new variables. Nothing of the program is proved here. (2) Contract: slices.Clone of numbers. (3) Contracts: within, named, amount, level, isTask, isHost. (4) Contracts: costs. (5) Contracts: a name that is there already. -/
import Derived.Test.YtodedneanlekdaaBd2
namespace Go.Proofs.Ytodedneanlekdaa
set_option linter.unusedSimpArgs false
set_option linter.unusedVariables false
section
set_option linter.unusedVariables false
open Go.RowKit
theorem wp_thenQ {P : Program} {o : Oper} {a : Act} {w : World} {K K2 : Act → World → Prop} {Q : Exit → Act → World → Prop} (h : o.wp P a w K (Exit.then K2 Q)) : o.wp P a w K Q := by
  unfold Oper.wp at h ⊢
  generalize (execOp a.eval o).run P w = r at *
  cases r with
  | ok x w' => cases x <;> simp only [Oper.upon] at h ⊢ <;> exact h
  | halt x w' => cases x <;> simp only [Oper.upon] at h ⊢ <;> exact h
/-- a region, cut before an operation that is walked for itself -/
theorem wpL_cut {P : Program} {ops : Array Oper} {Q : Exit → Act → World → Prop} {ro : Option Nat} {r : List Oper} : ∀ (l : List Oper) (a : Act) (w : World), (l.all fun o => match o.op with | .defer _ => false | _ => true) = true →
    wpL P ops (Exit.then (fun a w => wpListIn { Fence.wide with round := ro } 0 P ops Q r a w) Q) l a w → wpListIn { Fence.wide with round := ro } 0 P ops Q (l ++ r) a w := by
  intro l
  induction l with
  | nil => intro a w _ h; exact h
  | cons o l ih =>
    intro a w hd h
    simp only [List.all_cons, Bool.and_eq_true] at hd
    unfold wpL at h
    rw [List.cons_append]
    unfold wpListIn
    split
    · rename_i hw
      rw [if_pos hw] at h
      exact wpIn_of_wp (ro := ro) (n := 0) (fun c hc => by have := hd.1; rw [hc] at this; cases this) (Oper.wp_mono (fun a w h => ih a w hd.2 h) (wp_thenQ h))
    · rename_i hw; rw [if_neg hw] at h; exact ⟨fun _ _ => trivial, ih _ _ hd.2 h⟩
namespace Y
variable {P : Program} {W : World} {A : Act} {n : Nat} {L : List (Nat × Value)} {D : List Deferred} {ops : Array Oper} {o : Oper} {rest : List Oper} {Q : Exit → Act → World → Prop} {ro : Option Nat}
/-- a region in which yield is called at place k -/
theorem litcut {id : Nat} {l : List Oper} (l1 : List Oper) (o : Oper) (l2 : List Oper) (he : l = l1 ++ o :: l2) (hd : (l1.all fun o => match o.op with | .defer _ => false | _ => true) = true)
    (h : wpL P l.toArray (Exit.then (fun a w => wpListIn { Fence.wide with round := ro } 0 P l.toArray Q (o :: l2) a w) Q) l1 A W) : (Code.region id l.toArray false).wpIn (FW ro) 0 P Q A W := by
  have h2 := wpL_cut l1 A W hd h
  rw [← he] at h2
  exact wpIn_region_lit h2
theorem litcutk {id : Nat} {l : List Oper} (k : Nat) (o : Oper) (ho : l[k]? = some o) (hd : ((l.take k).all fun o => match o.op with | .defer _ => false | _ => true) = true)
    (h : wpL P l.toArray (Exit.then (fun a w => wpListIn { Fence.wide with round := ro } 0 P l.toArray Q (o :: l.drop (k + 1)) a w) Q) (l.take k) A W) : (Code.region id l.toArray false).wpIn (FW ro) 0 P Q A W := by
  refine litcut (l.take k) o (l.drop (k + 1)) ?_ hd h
  have h1 := List.take_append_drop k l
  have h2 : l.drop k = o :: l.drop (k + 1) := by
    obtain ⟨hk, e⟩ := List.getElem?_eq_some_iff.1 ho
    rw [List.drop_eq_getElem_cons hk, e]
  rw [← h2, h1]
/-- a call of yield -/
theorem cutyield2 {l : Nat} {f x : Operand} {ts : Array TypeId} {v : Value} {T : Bool → World → Prop} (F : Fr A n L D) (hw : Region.wanted o (yielded ops A.tmps) = true) (hd : (match o.dst with | some d => decide (d < n) | none => true) = true) (hl : (rest.all fun o => match o.op with | .defer _ => false | _ => true) = true)
    (ho : o.op = .call { callee := .value f, args := #[x], argTypes := ts }) (hf : A.eval f = .func (.yield l) #[] #[]) (hx : A.eval x = v) (hy : YieldAt Fence.wide 0 P l #[v] W fun e W' => ∃ b, e = .returned (.bool b) ∧ T b W')
    (h : ∀ b W', T b W' → ∀ A', Fr A' n (X.putS L o.dst (.bool b)) D → wpL P ops Q rest A' W') : wpListIn { Fence.wide with round := ro } 0 P ops Q (o :: rest) A W := by
  unfold wpListIn
  rw [if_pos hw]
  exact op_yield ho hf hx hy (fun e W' h => by obtain ⟨b, h, _⟩ := h; exact ⟨_, h⟩) (fun v' W' hT => by
    obtain ⟨b, h1, h2⟩ := hT
    injection h1 with h1
    subst h1
    exact wpL_in _ _ _ hl (h b W' h2 _ (F.put hd)))
end Y
theorem Try.bd102 (a : Option Addr) (n c : Nat) (b : Bool) (z : Int) (d : Addr) (w : World) : (Instr.build 102 #[(0, .slice a n c), (1, .bool b), (2, .int .i64 z), (3, .pointer (some d))]).run Try.prog w = .ok (.agg #[.slice a n c, .bool b, .int .i64 z, .pointer (some d)]) w := by kernel_rfl
theorem Try.bd108 (w : World) : (Instr.build 108 #[]).run Try.prog w = .ok (.agg (ldA fun _ => 0).toArray) w := by kernel_rfl
theorem Try.bs34_0 (w : World) : (Instr.buildSlice 34 0 #[]).run Try.prog w = .ok (.slice (some ⟨w.heap.size, 0, none⟩) 0 0) (w.alloc (.cells #[] 3)) := by kernel_rfl
theorem Y.bd0 {ρ : Operand → Value} : (([] : List (Nat × Operand)).map fun p => (p.1, ρ p.2)) = [] := rfl

/-- the cells of a block, as a list -/
def VL (vs : List Value) : Nat → Value := fun k => vs[k]?.getD undef
theorem ownP_bx {W : World} {b : Nat} {t : TypeId} {vs : List Value} (h : W.heap[b]? = some (.cells vs.toArray t)) : OwnP W b vs.length (VL vs) :=
  ⟨_, t, h, by simp, fun k hk => by simp [VL, hk]⟩
theorem ownP_load {P : Program} {W : World} {b n : Nat} {t : TypeId} {vs : List Value} (h : OwnP W b n (VL vs)) (hA : (isAgg t).run P W = .ok true W) (hS : (sizeOf t).run P W = .ok n W) (hn : vs.length = n) : (Instr.loadAt t (.pointer (some ⟨b, 0, none⟩))).run P W = .ok (.agg vs.toArray) W :=
  X.ldN hA (by rw [hS, ← hn]) (fun j v hv => by
    rw [addr_add0]
    have hj : j < n := by have := (List.getElem?_eq_some_iff.1 hv).1; omega
    rw [h.cell hj]
    simp [VL, hv])
/-- all the cells are stored -/
theorem ownP_store {P : Program} {W : World} {b n : Nat} {val : Nat → Value} {vs : List Value} {t : TypeId} (h : OwnP W b n val) (hn : vs.length = n) (hS : ∀ W, (sizeOf t).run P W = .ok n W) (h1 : (vs.all fun v => v.oneCell') = true) :
    ∃ W', (Instr.storeAt t (.pointer (some ⟨b, 0, none⟩)) (.agg vs.toArray)).run P W = .ok () W' ∧ OwnP W' b n (VL vs) ∧ Only (fun x => x = b) W W' := by
  have key : ∀ (rest pre : List Value) (W1 : World) (val : Nat → Value), OwnP W1 b n val → pre ++ rest = vs → ∃ W', (storeCells ⟨b, 0, none⟩ rest pre.length).run P W1 = .ok () W' ∧ OwnP W' b n (fun j => if pre.length ≤ j then VL vs j else val j) ∧ Only (fun x => x = b) W1 W' := by
    intro rest
    induction rest with
    | nil => intro pre W1 val h1 e; exact ⟨W1, by simp [storeCells, go_sem], h1.congr (fun j hj => by rw [if_neg (by rw [← hn, ← e] at hj; simp at hj; omega)]), Only.refl _ _⟩
    | cons v rest ih =>
      intro pre W1 val hw e
      have hpl : pre.length < n := by rw [← hn, ← e]; simp
      have h2 := hw.set (k := pre.length) v
      obtain ⟨W', h3, h4, h5⟩ := ih (pre ++ [v]) _ _ h2 (by simpa using e)
      have hv1 : v.oneCell' = true := List.all_eq_true.1 h1 v (by rw [← e]; simp)
      refine ⟨W', ?_, h4.congr (fun j hj => ?_), (Only.setCell (S := fun x => x = b) (Only.refl _ _) (.inl rfl) _).trans h5⟩
      · have e0 : (⟨b, 0, none⟩ : Addr).add pre.length = ⟨b, pre.length, none⟩ := addr_add0 b pre.length
        have c := hw.cell (k := pre.length) hpl
        have f := hw.fz pre.length
        have hs := run_store P W1 ⟨b, pre.length, none⟩ v .plain hv1
        rw [c, f] at hs
        simp only [Bool.false_eq_true, if_false] at hs
        simp only [List.length_append, List.length_cons, List.length_nil, Nat.zero_add] at h3
        simp [storeCells, e0, hs, go_sem]
        exact h3
      · simp only [List.length_append, List.length_cons, List.length_nil, Nat.zero_add]
        by_cases e1 : pre.length + 1 ≤ j
        · rw [if_pos e1, if_pos (by omega)]
        · rw [if_neg e1]
          by_cases e2 : j = pre.length
          · subst e2; rw [if_pos rfl, if_pos (Nat.le_refl _)]; rw [← e]; simp [VL]
          · rw [if_neg e2, if_neg (by omega)]
  obtain ⟨W', h1', h2, h3⟩ := key vs [] W val h rfl
  refine ⟨W', ?_, h2.congr (fun j hj => if_pos (Nat.zero_le _)), h3⟩
  simp [Instr.storeAt, storeVar, Instr.sureAddr, hS, Value.cells, go_sem, hn]
  exact h1'
theorem OwnR.lower {W : World} {B B' e k n : Nat} {v : Value} {xs : List Value} (h : OwnR W B e k v n xs) (hB : B' ≤ B) : OwnR W B' e k v n xs := by
  refine ⟨h.1, ?_⟩
  rcases h.2 with h2 | ⟨b, cap, cur, h1, h2, h3, h4⟩
  · exact .inl h2
  · exact .inr ⟨b, cap, cur, h1, Nat.le_trans hB h2, h3, h4⟩
/-- a region that makes a variable (a) and fills it (b) -/
structure RN (w : World) (a b n : Nat) (v0 v1 : Nat → Value) (done : Nat → Bool) (u : Nat → Value) (W : World) : Prop where
  g : Gr w W
  ga : done a = true → done b = false → ∃ q, u a = .pointer (some ⟨q, 0, none⟩) ∧ w.heap.size ≤ q ∧ OwnP W q n v0
  gb : done b = true → ∃ q, u a = .pointer (some ⟨q, 0, none⟩) ∧ w.heap.size ≤ q ∧ OwnP W q n v1
section
variable {w W W' : World} {a b n i : Nat} {v0 v1 : Nat → Value} {done : Nat → Bool} {u : Nat → Value} {v : Value}
theorem RN.start {u : Nat → Value} (g : Gr w W) : RN w a b n v0 v1 (fun _ => false) u W := ⟨g, fun h => by simp at h, fun h => by simp at h⟩
theorem RN.quiet (h : RN w a b n v0 v1 done u W) (g : Gr W W') (hi : (i == a || i == b) = false) : RN w a b n v0 v1 (upd done i) (fun j => if j = i then v else u j) W' := by
  simp only [Bool.or_eq_false_iff, beq_eq_false_iff_ne] at hi
  obtain ⟨h1, h2⟩ := hi
  have e1 := upd_ne (done := done) (Ne.symm h1)
  have e2 := upd_ne (done := done) (Ne.symm h2)
  refine ⟨h.g.trans g, fun k0 k1 => ?_, fun k => ?_⟩
  · obtain ⟨q, e, hq, ho⟩ := h.ga (e1 ▸ k0) (e2 ▸ k1)
    exact ⟨q, by simpa [Ne.symm h1] using e, hq, ho.gr g⟩
  · obtain ⟨q, e, hq, ho⟩ := h.gb (e2 ▸ k)
    exact ⟨q, by simpa [Ne.symm h1] using e, hq, ho.gr g⟩
theorem RN.sa {q : Nat} (h : RN w a b n v0 v1 done u W) (hab : (a == b) = false) (hb : done b = false) (g : Gr W W') (hq : w.heap.size ≤ q) (ho : OwnP W' q n v0) : RN w a b n v0 v1 (upd done a) (fun j => if j = a then .pointer (some ⟨q, 0, none⟩) else u j) W' := by
  have e2 := upd_ne (done := done) (i := a) (j := b) (by simpa using (fun e : b = a => by simp [e] at hab))
  exact ⟨h.g.trans g, fun _ _ => ⟨q, by simp, hq, ho⟩, fun k => (by rw [e2, hb] at k; cases k)⟩
theorem RN.sb {q : Nat} (h : RN w a b n v0 v1 done u W) (hab : (a == b) = false) (e : u a = .pointer (some ⟨q, 0, none⟩)) (g : Gr w W') (hq : w.heap.size ≤ q) (ho : OwnP W' q n v1) : RN w a b n v0 v1 (upd done b) (fun j => if j = b then v else u j) W' := by
  have e2 : a ≠ b := by simpa using hab
  exact ⟨g, fun _ k => (by rw [upd_self] at k; cases k), fun _ => ⟨q, by simpa [e2] using e, hq, ho⟩⟩
end
/-- a region that makes two rows (a, b), appends one to the other (c), and calls with it (d) what tells a truth, of which it takes the contrary (e) -/
structure RV (w : World) (a b c d e : Nat) (Ta Tb Tc Td : Value → World → Prop) (done : Nat → Bool) (u : Nat → Value) (W : World) : Prop where
  g : done d = false → Gr w W
  ga : done a = true → done c = false → done d = false → Ta (u a) W
  gb : done b = true → done c = false → done d = false → Tb (u b) W
  gc : done c = true → done d = false → Tc (u c) W
  gd : done d = true → Td (u d) W
  ge : done e = true → ∃ x, u d = .bool x ∧ u e = .bool !x
/-- lasts while memory only grows -/
def UpV (T : Value → World → Prop) : Prop := ∀ v W W', T v W → Gr W W' → T v W'
section
variable {w W W' : World} {a b c d e i : Nat} {Ta Tb Tc Td : Value → World → Prop} {done : Nat → Bool} {u : Nat → Value} {v : Value}
theorem RV.start {u : Nat → Value} (g : Gr w W) : RV w a b c d e Ta Tb Tc Td (fun _ => false) u W := ⟨fun _ => g, fun h => by simp at h, fun h => by simp at h, fun h => by simp at h, fun h => by simp at h, fun h => by simp at h⟩
theorem RV.quiet (h : RV w a b c d e Ta Tb Tc Td done u W) (ha : UpV Ta) (hb : UpV Tb) (hc : UpV Tc) (hd : done d = false) (he : done e = false) (g : Gr W W') (hi : (i == a || i == b || i == c || i == d || i == e) = false) : RV w a b c d e Ta Tb Tc Td (upd done i) (fun j => if j = i then v else u j) W' := by
  simp only [Bool.or_eq_false_iff, beq_eq_false_iff_ne] at hi
  obtain ⟨⟨⟨⟨h1, h2⟩, h3⟩, h4⟩, h5⟩ := hi
  have e1 := upd_ne (done := done) (Ne.symm h1)
  have e2 := upd_ne (done := done) (Ne.symm h2)
  have e3 := upd_ne (done := done) (Ne.symm h3)
  have e4 := upd_ne (done := done) (Ne.symm h4)
  have e5 := upd_ne (done := done) (Ne.symm h5)
  refine ⟨fun k => (h.g hd).trans g, fun k0 k1 k2 => ?_, fun k0 k1 k2 => ?_, fun k0 k1 => ?_, fun k0 => ?_, fun k0 => ?_⟩
  · have := ha _ _ _ (h.ga (e1 ▸ k0) (e3 ▸ k1) hd) g; simpa [Ne.symm h1] using this
  · have := hb _ _ _ (h.gb (e2 ▸ k0) (e3 ▸ k1) hd) g; simpa [Ne.symm h2] using this
  · have := hc _ _ _ (h.gc (e3 ▸ k0) hd) g; simpa [Ne.symm h3] using this
  · rw [e4, hd] at k0; cases k0
  · rw [e5, he] at k0; cases k0
end
def ne5 (a b c d e : Nat) : Bool := !(a == b || a == c || a == d || a == e || b == c || b == d || b == e || c == d || c == e || d == e)
section
variable {w W W' : World} {a b c d e i : Nat} {Ta Tb Tc Td : Value → World → Prop} {done : Nat → Bool} {u : Nat → Value} {v : Value}
theorem ne5_all (h : ne5 a b c d e = true) : a ≠ b ∧ a ≠ c ∧ a ≠ d ∧ a ≠ e ∧ b ≠ c ∧ b ≠ d ∧ b ≠ e ∧ c ≠ d ∧ c ≠ e ∧ d ≠ e := by
  simp only [ne5, Bool.not_eq_true', Bool.or_eq_false_iff, beq_eq_false_iff_ne] at h
  obtain ⟨⟨⟨⟨⟨⟨⟨⟨⟨h1, h2⟩, h3⟩, h4⟩, h5⟩, h6⟩, h7⟩, h8⟩, h9⟩, h10⟩ := h
  exact ⟨h1, h2, h3, h4, h5, h6, h7, h8, h9, h10⟩
theorem RV.sa (h : RV w a b c d e Ta Tb Tc Td done u W) (hn : ne5 a b c d e = true) (hb : UpV Tb) (hc : done c = false) (hd : done d = false) (he : done e = false) (g : Gr W W') (ht : Ta v W') : RV w a b c d e Ta Tb Tc Td (upd done a) (fun j => if j = a then v else u j) W' := by
  obtain ⟨n1, n2, n3, n4, _⟩ := ne5_all hn
  have e1 := upd_ne (done := done) (Ne.symm n1)
  have e2 := upd_ne (done := done) (Ne.symm n2)
  have e3 := upd_ne (done := done) (Ne.symm n3)
  have e4 := upd_ne (done := done) (Ne.symm n4)
  refine ⟨fun _ => (h.g hd).trans g, fun _ _ _ => by simpa using ht, fun k0 k1 k2 => ?_, fun k => ?_, fun k => ?_, fun k => ?_⟩
  · have := hb _ _ _ (h.gb (e1 ▸ k0) hc hd) g; simpa [Ne.symm n1] using this
  · rw [e2, hc] at k; cases k
  · rw [e3, hd] at k; cases k
  · rw [e4, he] at k; cases k
theorem RV.sb (h : RV w a b c d e Ta Tb Tc Td done u W) (hn : ne5 a b c d e = true) (ha : UpV Ta) (hc : done c = false) (hd : done d = false) (he : done e = false) (g : Gr W W') (ht : Tb v W') : RV w a b c d e Ta Tb Tc Td (upd done b) (fun j => if j = b then v else u j) W' := by
  obtain ⟨n1, _, _, _, n5, n6, n7, _⟩ := ne5_all hn
  have e1 := upd_ne (done := done) n1
  have e2 := upd_ne (done := done) (Ne.symm n5)
  have e3 := upd_ne (done := done) (Ne.symm n6)
  have e4 := upd_ne (done := done) (Ne.symm n7)
  refine ⟨fun _ => (h.g hd).trans g, fun k0 k1 k2 => ?_, fun _ _ _ => by simpa using ht, fun k => ?_, fun k => ?_, fun k => ?_⟩
  · have := ha _ _ _ (h.ga (e1 ▸ k0) hc hd) g; simpa [n1] using this
  · rw [e2, hc] at k; cases k
  · rw [e3, hd] at k; cases k
  · rw [e4, he] at k; cases k
theorem RV.sc (hn : ne5 a b c d e = true) (hd : done d = false) (he : done e = false) (g : Gr w W') (ht : Tc v W') : RV w a b c d e Ta Tb Tc Td (upd done c) (fun j => if j = c then v else u j) W' := by
  obtain ⟨_, _, _, _, _, _, _, n8, n9, _⟩ := ne5_all hn
  have e3 := upd_ne (done := done) (Ne.symm n8)
  have e4 := upd_ne (done := done) (Ne.symm n9)
  refine ⟨fun _ => g, fun _ k => ?_, fun _ k => ?_, fun _ _ => by simpa using ht, fun k => ?_, fun k => ?_⟩
  · rw [upd_self] at k; cases k
  · rw [upd_self] at k; cases k
  · rw [e3, hd] at k; cases k
  · rw [e4, he] at k; cases k
theorem RV.sd (hn : ne5 a b c d e = true) (he : done e = false) (ht : Td v W') : RV w a b c d e Ta Tb Tc Td (upd done d) (fun j => if j = d then v else u j) W' := by
  obtain ⟨_, _, _, _, _, _, _, _, _, n10⟩ := ne5_all hn
  have e4 := upd_ne (done := done) (Ne.symm n10)
  refine ⟨fun k => ?_, fun _ _ k => ?_, fun _ _ k => ?_, fun _ k => ?_, fun _ => by simpa using ht, fun k => ?_⟩
  · rw [upd_self] at k; cases k
  · rw [upd_self] at k; cases k
  · rw [upd_self] at k; cases k
  · rw [upd_self] at k; cases k
  · rw [e4, he] at k; cases k
theorem RV.se {x : Bool} (hn : ne5 a b c d e = true) (hd : done d = true) (hx : u d = .bool x) (ht : Td (u d) W) : RV w a b c d e Ta Tb Tc Td (upd done e) (fun j => if j = e then .bool !x else u j) W := by
  obtain ⟨_, _, _, _, _, _, _, _, _, n10⟩ := ne5_all hn
  have e4 := upd_ne (done := done) n10
  refine ⟨fun k => ?_, fun _ _ k => ?_, fun _ _ k => ?_, fun _ k => ?_, fun _ => by simpa [n10] using ht, fun _ => ⟨x, by simpa [n10] using hx, by simp⟩⟩
  · rw [e4, hd] at k; cases k
  · rw [e4, hd] at k; cases k
  · rw [e4, hd] at k; cases k
  · rw [e4, hd] at k; cases k
end
/-- a beginning that goes on with one more task -/
theorem ldV_app {p : Pb} {xs : List Int} {h : Int} : ∀ k, k ≤ xs.length → ldV p (xs ++ [h]) k = ldV p xs k := by
  intro k
  induction k with
  | zero => intro _; rfl
  | succ k ih => intro hk; simp only [ldV]; rw [ih (by omega), xg_app (by omega)]
theorem ldV_snoc {p : Pb} {xs : List Int} {h : Int} : ldV p (xs ++ [h]) (xs ++ [h]).length = withV (ldV p xs xs.length) (p.tv xs.length 1) (p.tv xs.length 2) h.toNat := by
  rw [show (xs ++ [h]).length = xs.length + 1 by simp]
  simp only [ldV]
  rw [ldV_app _ (Nat.le_refl _), xg_end]
section
variable {σ : Type} {nh : Nat} {hope : List Int → Bool} {st : σ → List Int → σ × Bool × Bool}
theorem vis_stop {m : Nat} {xs : List Int} {s : σ} (h : (st s xs).2.2 = false) : (visF nh hope st m xs s).2 = false := by
  cases m with
  | zero => exact h
  | succ m => simp [visF, h]
theorem vis_leaf {m : Nat} {xs : List Int} {s : σ} (h : (st s xs).2.2 = true) (k : hope xs = true ∨ (st s xs).2.1 = false ∨ m = 0) : visF nh hope st m xs s = ((st s xs).1, true) := by
  cases m with
  | zero => simp [visF, h]
  | succ m =>
    simp only [visF, h, if_true]
    rw [if_pos]
    rcases k with k | k | k
    · simp [k]
    · simp [k]
    · cases k
theorem vis_in {m : Nat} {xs : List Int} {s : σ} (h : (st s xs).2.2 = true) (k : hope xs = false) (k2 : (st s xs).2.1 = true) : visF nh hope st (m + 1) xs s = visN (fun h s => visF nh hope st m (xs ++ [(h : Int)]) s) nh (st s xs).1 := by
  simp [visF, h, k, k2]
theorem visN_false {f : Nat → σ → σ × Bool} {s : σ} {k n : Nat} (h : (visN f k s).2 = false) (hk : k ≤ n) : (visN f n s).2 = false := by
  induction n with
  | zero => rw [show k = 0 by omega] at h; exact h
  | succ n ih =>
    by_cases e : k = n + 1
    · subst e; exact h
    · have := ih (by omega)
      simp [visN, this]
theorem visN_next {f : Nat → σ → σ × Bool} {s s1 : σ} {k : Nat} (h : visN f k s = (s1, true)) : visN f (k + 1) s = f k s1 := by
  simp [visN, h]
end
/-- what the search reads -/
structure VisE (W : World) (p : Pb) (ta ha ba la : Option Addr) (tc hc bc lc bp by_ bv lp : Nat) : Prop where
  P : PbAt W p ta ha ba la tc hc bc lc
  c : RCells W [(⟨bp, 0, none⟩, .slice ta p.nt tc), (⟨bp, 1, none⟩, .slice ha p.nh hc), (⟨bp, 2, none⟩, .slice ba p.nb bc), (⟨bp, 3, none⟩, .slice la p.nl lc), (⟨by_, 0, none⟩, .func (.yield lp) #[] #[]), (⟨bv, 0, none⟩, .func (.func 103) #[] #[.pointer (some ⟨bp, 0, none⟩), .pointer (some ⟨by_, 0, none⟩), .pointer (some ⟨bv, 0, none⟩)])]
/-- a node as a value -/
def ndV (p : Pb) (a : Option Addr) (c d : Nat) (xs : List Int) : Value := .agg #[.slice a xs.length c, .bool (hopeB p (tim p) xs), .int .i64 (bndV p xs), .pointer (some ⟨d, 0, none⟩)]
/-- the numbers of a beginning, in memory that no one else writes; none: there are none -/
structure BegAt (W : World) (B : Nat) (a : Option Addr) (c : Nat) (xs : List Int) : Prop where
  i : Ints W a xs.length xs
  ge : ∀ ad, a = some ad → B ≤ ad.block ∧ ad.block < W.heap.size
  nil : xs.length = 0 → a = none ∧ c = 0
  le : xs.length ≤ c
theorem BegAt.gr {W W' : World} {B : Nat} {a : Option Addr} {c : Nat} {xs : List Int} (h : BegAt W B a c xs) (g : Gr W W') : BegAt W' B a c xs :=
  ⟨h.i.gr g, fun ad e => ⟨(h.ge ad e).1, Nat.lt_of_lt_of_le (h.ge ad e).2 g.size⟩, h.nil, h.le⟩
theorem BegAt.only {S : Nat → Prop} {W W' : World} {B : Nat} {a : Option Addr} {c : Nat} {xs : List Int} (h : BegAt W B a c xs) (g : Only S W W') (hn : ∀ ad, a = some ad → ¬ S ad.block) : BegAt W' B a c xs :=
  ⟨h.i.onlyAt g hn, fun ad e => ⟨(h.ge ad e).1, Nat.lt_of_lt_of_le (h.ge ad e).2 g.size⟩, h.nil, h.le⟩
theorem ownR_0 {W : World} {B b : Nat} (h : W.heap[b]? = some (.cells #[] 3)) (hB : B ≤ b) : OwnR W B 3 1 (.slice (some ⟨b, 0, none⟩) 0 0) 0 [] := ⟨rfl, .inr ⟨b, 0, #[], rfl, hB, h, Nat.le_refl _, by unfold maxLen; omega, rfl, rfl⟩⟩
theorem Ints.cells {w : World} {ad : Addr} {n : Nat} {xs : List Int} (h : Ints w (some ad) n xs) : ∀ j u, (xs.map (Value.int .i64))[j]? = some u → w.cell? (ad.add j) = some u := by
  intro j u hu
  have hj : j < n := by
    have := (List.getElem?_eq_some_iff.1 hu).1
    rw [List.length_map, h.len] at this; exact this
  obtain ⟨ad', e, _, hc⟩ := h.at hj
  injection e with e
  subst e
  rw [hc]
  rw [List.getElem?_map] at hu
  cases hx : xs[j]? with
  | none => rw [hx] at hu; simp at hu
  | some x => rw [hx] at hu; simpa using hu
theorem ints_all (xs : List Int) : ((xs.map (Value.int .i64)).all fun u => u.oneCell') = true := by
  rw [List.all_eq_true]
  intro u hu
  simp only [List.mem_map] at hu
  obtain ⟨x, _, rfl⟩ := hu
  rfl
/-- a new row as a value -/
theorem OwnR.beg {W : World} {B : Nat} {v : Value} {xs : List Int} (h : OwnR W B 3 1 v xs.length (xs.map (Value.int .i64))) (hl : xs.length < 1000000) (h0 : 0 < xs.length) : ∃ g c, v = .slice (some ⟨g, 0, none⟩) xs.length c ∧ BegAt W B (some ⟨g, 0, none⟩) c xs := by
  rcases h.shape with ⟨_, h1⟩ | ⟨g, c, rfl, h1, h2⟩
  · omega
  · obtain ⟨a, c', e, hi⟩ := h.ints (by omega)
    injection e with e1 _ e3
    subst e1 e3
    refine ⟨g, c, rfl, hi, fun ad e => by injection e with e; subst e; exact ⟨h1, h2⟩, fun e => by omega, ?_⟩
    rcases h.2 with ⟨e, _⟩ | ⟨g', cap, cur, e, _, _, hnc, _⟩
    · cases e
    · injection e with _ _ e; omega
end
section
open Go.RowKit

set_option maxRecDepth 100000 in
set_option maxHeartbeats 400000 in
theorem clone_0 (w : World) :
  Calls Try.prog 86 #[.slice none 0 0] w fun e w' => ∃ v, e = .returned v ∧ OwnR w' w.heap.size 3 1 v 0 [] ∧ Gr w w' := by
 have G := Gr.refl w
 refine Y.calls 8 Try.func86 rfl rfl ?_
 intro ac F0
 have F : Fr ac 8 [(0, .slice none 0 0)] := F0.sub _
 clear F0
 refine Y.sg F [(0, .slice none 0 0)] (Y.pv F (X.assign rfl (X.kc (.slice none 0 0) rfl)) fun ac F=>Y.fin F) ?_;clear F ac;intro ac F
 refine Y.seq ?_
 refine Y.sg F [(0, .slice none 0 0), (4, .bool true)] (Y.pv F (X.move rfl (F.ev 0 (.slice none 0 0))) fun ac F=>Y.pv F (X.binop rfl (F.ev 3 (.slice none 0 0)) (X.kc (.slice none 0 0) rfl) (Y.nilT Try.underlying34)) fun ac F=>Y.fin F) ?_;clear F ac;intro ac F
 refine Y.condT (F.ev 4 (.bool true)) ?_
 refine Y.sg F [(2, .slice none 0 0)] (Y.pv F (X.assign rfl (X.kc (.slice none 0 0) rfl)) fun ac F=>Y.fin F) ?_;clear F ac;intro ac F
 refine Y.ret ?_
 refine X.thenR ?_
 exact Y.ret0 (v := .slice none 0 0) F (Y.r1 F) ⟨_, rfl, OwnR.nil _ _ _ _, G⟩
set_option maxRecDepth 100000 in
set_option maxHeartbeats 400000 in
theorem clone_1 (ad : Addr) (n c : Nat) (xs : List Int) (w : World) (hX : Ints w (some ad) n xs) (hn : n ≤ 100000) :
  Calls Try.prog 86 #[.slice (some ad) n c] w fun e w' => ∃ v, e = .returned v ∧ OwnR w' w.heap.size 3 1 v xs.length (xs.map (Value.int .i64)) ∧ Gr w w' := by
 have G := Gr.refl w
 have hxs := hX
 have hlen := hxs.len
 refine Y.calls 8 Try.func86 rfl rfl ?_
 intro ac F0
 have F : Fr ac 8 [(0, .slice (some ad) n c)] := F0.sub _
 clear F0
 refine Y.sg F [(0, .slice (some ad) n c)] (Y.pv F (X.assign rfl (X.kc (.slice none 0 0) rfl)) fun ac F=>Y.fin F) ?_;clear F ac;intro ac F
 refine Y.seq ?_
 refine Y.sg F [(0, .slice (some ad) n c), (4, .bool false)] (Y.pv F (X.move rfl (F.ev 0 (.slice (some ad) n c))) fun ac F=>Y.pv F (X.binop rfl (F.ev 3 (.slice (some ad) n c)) (X.kc (.slice none 0 0) rfl) (Y.nilF Try.underlying34)) fun ac F=>Y.fin F) ?_;clear F ac;intro ac F
 refine Y.condF (F.ev 4 (.bool false)) ?_
 refine Y.skip ?_
 refine X.thenN ?_
 refine Y.sl ?_
 refine Y.pv F (X.bs rfl rfl (Try.bs34_0 _)) ?_;clear F ac;intro ac F
 have hgs := G.size
 have hgs3 : w.heap.size ≤ w.heap.size := G.size
 have g := Gr.alloc w (.cells #[] 3)
 have hb := heap_alloc_new w (.cells #[] 3)
 have hbl : w.heap.size < (w.alloc (.cells #[] 3)).heap.size := by simp
 generalize w.alloc (.cells #[] 3) = w4 at *
 replace G := G.trans g
 replace hxs := hxs.gr g
 have hO := ownR_0 hb hgs
 clear g hb hbl
 refine Y.pv F (X.move rfl (F.ev 0 (.slice (some ad) n c))) ?_;clear F ac;intro ac F
 refine Y.wpL_plain rfl fun _ hK => wp_pushV Try.underlying34 Try.info3 rfl (by decide) rfl (F.ev 5 (.slice (some ⟨w.heap.size, 0, none⟩) 0 0)) (F.ev 6 (.slice (some ad) n c)) hO (m := n) (news := xs.map (Value.int .i64)) (by rw [List.length_map, hlen, Nat.mul_one]) hxs.cells (ints_all _) (by omega) (by decide) G.size (fun v2 w5 hO2 hon hat => hK _ _ ?_)
 refine Y.pput F rfl ?_
 clear F ac hat
 intro ac F
 have G2 : Gr w w5 := Y.Only.up G (hon.mono' (fun b e => by simp [Value.ownBlock] at e; exact e.symm)) hgs
 clear G
 have G := G2
 clear G2
 refine Y.pv F (X.assign rfl (F.ev 7 (v2))) ?_;clear F ac;intro ac F
 refine Y.nt F [(2, v2)] ?_;clear F ac;intro ac F
 refine Y.ret ?_
 rw [Nat.zero_add, List.nil_append] at hO2
 exact Y.ret0 (v := v2) F (Y.r1 F) ⟨_, rfl, hlen.symm ▸ hO2, G⟩
theorem clone_any (a : Option Addr) (n c : Nat) (xs : List Int) (w : World) (hX : Ints w a n xs) (hn : n ≤ 100000) (hnil : a = none → n = 0 ∧ c = 0) :
  Calls Try.prog 86 #[.slice a n c] w (fun e w' => ∃ v, e = .returned v ∧ OwnR w' w.heap.size 3 1 v xs.length (xs.map (Value.int .i64)) ∧ Gr w w') := by
 cases a with
 | some ad => exact clone_1 ad n c xs w hX hn
 | none =>
  obtain ⟨rfl, rfl⟩ := hnil rfl
  have : xs = [] := List.eq_nil_of_length_eq_zero hX.len
  subst this
  exact clone_0 w
end
section
open Go.RowKit

def withinB (n lo hi : Int) : Bool := decide (lo ≤ n) && decide (n ≤ hi)
theorem withinB_lev {n : Int} : withinB n 0 4 = levB n := rfl
theorem withinB_t {p : Pb} {n : Int} : withinB n 0 ((p.nt : Int) - 1) = isT p n := by
  unfold withinB isT; congr 1; simp only [decide_eq_decide]; omega
theorem withinB_h {p : Pb} {n : Int} : withinB n 0 ((p.nh : Int) - 1) = isH p n := by
  unfold withinB isH; congr 1; simp only [decide_eq_decide]; omega
def byteB (s : ByteArray) (i : Nat) : Bool := decide (97 ≤ ((s[i]?.getD 0).toNat : Int)) && decide (((s[i]?.getD 0).toNat : Int) ≤ 122)
theorem name_bytes {s : ByteArray} (h1 : 1 ≤ s.size) (h8 : s.size ≤ 8) (h : allN (byteB s) s.size = true) : nameB s = true := by
  unfold nameB; rw [decide_eq_true h1, decide_eq_true h8]; exact h
theorem name_size {s : ByteArray} (h : allN (byteB s) s.size = true) : nameB s = withinB (s.size : Nat) 1 8 := by
  have e : nameB s = ((decide (1 ≤ s.size) && decide (s.size ≤ 8)) && allN (byteB s) s.size) := rfl
  rw [e, h]
  unfold withinB
  rw [Bool.and_true]
  congr 1 <;> simp only [decide_eq_decide] <;> omega
theorem name_short {s : ByteArray} (h : (s.size : Int) < 1 ∨ 8 < (s.size : Int)) : nameB s = false := by
  unfold nameB
  have : (decide (1 ≤ s.size) && decide (s.size ≤ 8)) = false := by
    simp only [Bool.and_eq_false_iff, decide_eq_false_iff_not]; omega
  rw [this]; rfl
theorem name_bad {s : ByteArray} {i : Nat} (hi : i < s.size) (h : byteB s i = false) : nameB s = false := by
  have e : nameB s = ((decide (1 ≤ s.size) && decide (s.size ≤ 8)) && allN (byteB s) s.size) := rfl
  rw [e, allN_false hi h, Bool.and_false]
set_option maxRecDepth 100000 in
set_option maxHeartbeats 400000 in
theorem within_any (x lo hi : Int) (w : World) :
  Calls Try.prog 56 #[Vi x, Vi lo, Vi hi] w fun e w' => e = .returned (.bool (withinB x lo hi)) ∧ w' = w := by
 have G := Gr.refl w
 refine Y.calls 15 Try.func56 rfl rfl ?_
 intro ac F0
 have F : Fr ac 15 [(0, Vi x), (1, Vi lo), (2, Vi hi)] := F0.sub _
 clear F0
 refine Y.sg F [(0, Vi x), (1, Vi lo), (2, Vi hi)] (Y.pv F (X.assign rfl (X.kc (.bool false) rfl)) fun ac F=>Y.fin F) ?_;clear F ac;intro ac F
 refine Y.sl ?_
 refine Y.pv4 F (X.move rfl (F.e 0 rfl)) (fun _ F=>X.move rfl (F.e 1 rfl)) (fun _ F=>X.binop rfl (F.e 7 rfl) (F.e 8 rfl) (X.geqI Try.underlying3 rfl)) (fun _ F=>X.move rfl (F.e 9 rfl)) ?_;clear F ac;intro ac F
 cases h3 : decide ((lo : Int) ≤ x) with
 | false =>
  try rw [h3] at F
  have h3p : ¬ ((lo : Int) ≤ x) := of_decide_eq_false h3
  refine Y.ps F 3 10 false ?_;clear F ac;intro ac F
  refine Y.ps F 3 10 false ?_;clear F ac;intro ac F
  refine Y.ps F 3 10 false ?_;clear F ac;intro ac F
  refine Y.pv2 F (X.pickF rfl (F.e 10 rfl) (X.kc (.bool false) rfl)) (fun _ F=>X.assign rfl (F.e 14 rfl)) ?_;clear F ac;intro ac F
  refine Y.nt F [(6, .bool false)] ?_;clear F ac;intro ac F
  refine Y.ret ?_
  exact Y.ret0 (v := .bool false) F (Y.r1 F) ⟨by simp [withinB, h3], rfl⟩
 | true =>
  try rw [h3] at F
  have h3p : ((lo : Int) ≤ x) := of_decide_eq_true h3
  refine Y.pg F 3 10 true (X.move rfl (F.e 0 rfl)) ?_;clear F ac;intro ac F
  refine Y.pg F 3 10 true (X.move rfl (F.e 2 rfl)) ?_;clear F ac;intro ac F
  refine Y.pg F 3 10 true (X.binop rfl (F.e 11 rfl) (F.e 12 rfl) (X.leqI Try.underlying3 rfl)) ?_;clear F ac;intro ac F
  refine Y.pv2 F (X.pickT rfl (F.e 10 rfl) (F.e 13 rfl)) (fun _ F=>X.assign rfl (F.e 14 rfl)) ?_;clear F ac;intro ac F
  refine Y.nt F [(6, .bool (decide ((x : Int) ≤ hi)))] ?_;clear F ac;intro ac F
  refine Y.ret ?_
  exact Y.ret0 (v := .bool (decide ((x : Int) ≤ hi))) F (Y.r1 F) ⟨by simp [withinB, h3], rfl⟩
set_option maxRecDepth 100000 in
set_option maxHeartbeats 400000 in
theorem amount_any (x : Int) (w : World) :
  Calls Try.prog 63 #[Vi x] w fun e w' => e = .returned (.bool (amtB x)) ∧ w' = w := by
 have G := Gr.refl w
 refine Y.calls 9 Try.func63 rfl rfl ?_
 intro ac F0
 have F : Fr ac 9 [(0, Vi x)] := F0.sub _
 clear F0
 refine Y.sg F [(0, Vi x)] (Y.pv F (X.assign rfl (X.kc (.bool false) rfl)) fun ac F=>Y.fin F) ?_;clear F ac;intro ac F
 refine Y.sl ?_
 refine Y.pv3 F (X.move rfl (F.e 0 rfl)) (fun _ F=>X.binop rfl (F.e 3 rfl) (X.kc (Vi 0) rfl) (X.geqI Try.underlying3 rfl)) (fun _ F=>X.move rfl (F.e 4 rfl)) ?_;clear F ac;intro ac F
 cases h3 : decide ((0 : Int) ≤ x) with
 | false =>
  try rw [h3] at F
  have h3p : ¬ ((0 : Int) ≤ x) := of_decide_eq_false h3
  refine Y.ps F 2 5 false ?_;clear F ac;intro ac F
  refine Y.ps F 2 5 false ?_;clear F ac;intro ac F
  refine Y.pv2 F (X.pickF rfl (F.e 5 rfl) (X.kc (.bool false) rfl)) (fun _ F=>X.assign rfl (F.e 8 rfl)) ?_;clear F ac;intro ac F
  refine Y.nt F [(2, .bool false)] ?_;clear F ac;intro ac F
  refine Y.ret ?_
  exact Y.ret0 (v := .bool false) F (Y.r1 F) ⟨by simp [amtB, h3], rfl⟩
 | true =>
  try rw [h3] at F
  have h3p : ((0 : Int) ≤ x) := of_decide_eq_true h3
  refine Y.pg F 2 5 true (X.move rfl (F.e 0 rfl)) ?_;clear F ac;intro ac F
  refine Y.pg F 2 5 true (X.binop rfl (F.e 6 rfl) (X.kc (Vi 100000) rfl) (X.leqI Try.underlying3 rfl)) ?_;clear F ac;intro ac F
  refine Y.pv2 F (X.pickT rfl (F.e 5 rfl) (F.e 7 rfl)) (fun _ F=>X.assign rfl (F.e 8 rfl)) ?_;clear F ac;intro ac F
  refine Y.nt F [(2, .bool (decide ((x : Int) ≤ 100000)))] ?_;clear F ac;intro ac F
  refine Y.ret ?_
  exact Y.ret0 (v := .bool (decide ((x : Int) ≤ 100000))) F (Y.r1 F) ⟨by simp [amtB, h3], rfl⟩
set_option maxRecDepth 100000 in
set_option maxHeartbeats 400000 in
theorem level_any (x : Int) (w : World) :
  Calls Try.prog 98 #[Vi x] w fun e w' => e = .returned (.bool (levB x)) ∧ w' = w := by
 have G := Gr.refl w
 refine Y.calls 9 Try.func98 rfl rfl ?_
 intro ac F0
 have F : Fr ac 9 [(0, Vi x)] := F0.sub _
 clear F0
 refine Y.sg F [(0, Vi x)] (Y.pv F (X.assign rfl (X.kc (.bool false) rfl)) fun ac F=>Y.fin F) ?_;clear F ac;intro ac F
 refine Y.sl ?_
 refine Y.pv3 F (X.move rfl (F.e 0 rfl)) (fun _ F=>X.binop rfl (F.e 3 rfl) (X.kc (Vi 0) rfl) (X.geqI Try.underlying3 rfl)) (fun _ F=>X.move rfl (F.e 4 rfl)) ?_;clear F ac;intro ac F
 cases h3 : decide ((0 : Int) ≤ x) with
 | false =>
  try rw [h3] at F
  have h3p : ¬ ((0 : Int) ≤ x) := of_decide_eq_false h3
  refine Y.ps F 2 5 false ?_;clear F ac;intro ac F
  refine Y.ps F 2 5 false ?_;clear F ac;intro ac F
  refine Y.pv2 F (X.pickF rfl (F.e 5 rfl) (X.kc (.bool false) rfl)) (fun _ F=>X.assign rfl (F.e 8 rfl)) ?_;clear F ac;intro ac F
  refine Y.nt F [(2, .bool false)] ?_;clear F ac;intro ac F
  refine Y.ret ?_
  exact Y.ret0 (v := .bool false) F (Y.r1 F) ⟨by simp [levB, h3], rfl⟩
 | true =>
  try rw [h3] at F
  have h3p : ((0 : Int) ≤ x) := of_decide_eq_true h3
  refine Y.pg F 2 5 true (X.move rfl (F.e 0 rfl)) ?_;clear F ac;intro ac F
  refine Y.pg F 2 5 true (X.binop rfl (F.e 6 rfl) (X.kc (Vi 4) rfl) (X.leqI Try.underlying3 rfl)) ?_;clear F ac;intro ac F
  refine Y.pv2 F (X.pickT rfl (F.e 5 rfl) (F.e 7 rfl)) (fun _ F=>X.assign rfl (F.e 8 rfl)) ?_;clear F ac;intro ac F
  refine Y.nt F [(2, .bool (decide ((x : Int) ≤ 4)))] ?_;clear F ac;intro ac F
  refine Y.ret ?_
  exact Y.ret0 (v := .bool (decide ((x : Int) ≤ 4))) F (Y.r1 F) ⟨by simp [levB, h3], rfl⟩
set_option maxRecDepth 100000 in
set_option maxHeartbeats 400000 in
theorem named_any (s : ByteArray) (w : World) (hs : s.size ≤ 9223372036854775807) :
  Calls Try.prog 54 #[.string s] w fun e w' => e = .returned (.bool (nameB s)) ∧ w' = w := by
 have G := Gr.refl w
 refine Y.calls 23 Try.func54 rfl rfl ?_
 intro ac F0
 have F : Fr ac 23 [(0, .string s)] := F0.sub _
 clear F0
 refine Y.sg F [(0, .string s)] (Y.pv F (X.assign rfl (X.kc (.bool false) rfl)) fun ac F=>Y.fin F) ?_;clear F ac;intro ac F
 refine Y.seq ?_
 refine Y.sg F [(0, .string s), (5, Vi (s.size : Nat)), (6, Vi 0)] (Y.pv F (X.move rfl (F.e 0 rfl)) fun ac F=>Y.pv F (Y.lenS Try.underlying9 rfl (F.e 4 rfl)) fun ac F=>Y.pv F (X.move rfl (X.kc (Vi 0) rfl)) fun ac F=>Y.fin F) ?_;clear F ac;intro ac F
 refine Y.block ?_
 have GB := G
 refine Y.loop (fun me_ ac wr => ∃ (i : Nat), me_ = s.size - i ∧ Gr w wr ∧ i ≤ s.size ∧ allN (byteB s) i = true ∧ wr = w ∧ Fr ac 23 [(0, .string s), (5, Vi (s.size : Nat)), (6, Vi i)]) _ ⟨0, rfl, Gr.refl _, Nat.zero_le _, rfl, rfl, F.sub _⟩ ?_
 clear F
 intro me_ ac w3 hI
 obtain ⟨i, rfl, gr, hi0, hok, hww, F⟩ := hI
 replace G := GB.trans gr
 have GB_ := gr
 clear gr
 refine Y.sg F [(0, .string s), (5, Vi (s.size : Nat)), (6, Vi i), (7, .bool (decide ((i : Int) < (s.size : Nat))))] (Y.pv F (X.binop rfl (F.e 6 rfl) (F.e 5 rfl) (X.lssI Try.underlying3 rfl)) fun ac F=>Y.fin F) ?_;clear F ac;intro ac F
 refine Y.seq ?_
 cases h4 : decide ((i : Int) < (s.size : Nat)) with
 | false =>
  try rw [h4] at F
  have h4p : ¬ ((i : Int) < (s.size : Nat)) := of_decide_eq_false h4
  obtain rfl : i = s.size := by omega
  refine Y.condF (F.e 7 rfl) ?_
  refine Y.exit ?_
  refine X.thenX (X.thenX (X.blockX (X.thenN ?_)))
  refine Y.sl ?_
  refine Y.pv2 F (X.move rfl (F.e 0 rfl)) (fun _ F=>Y.lenS Try.underlying9 rfl (F.e 20 rfl)) ?_;clear F ac;intro ac F
  refine Y.pc F 56 (X.a3 (F.e 21 rfl) (X.kc (Vi 1) rfl) (X.kc (Vi 8) rfl)) Try.func56 (within_any (s.size : Nat) 1 8 w3) ?_
  clear F ac
  rintro e w' ⟨rfl, hw_⟩
  obtain rfl : w3 = w' := hw_.symm
  clear hw_
  refine ⟨_, rfl, ?_⟩
  intro ac F
  refine Y.pv F (X.assign rfl (F.e 22 rfl)) ?_;clear F ac;intro ac F
  refine Y.nt F [(2, .bool (withinB (s.size : Nat) 1 8))] ?_;clear F ac;intro ac F
  refine Y.ret ?_
  exact Y.ret0 (v := .bool (withinB (s.size : Nat) 1 8)) F (Y.r1 F) ⟨by rw [name_size hok], hww⟩
 | true =>
  try rw [h4] at F
  have h4p : ((i : Int) < (s.size : Nat)) := of_decide_eq_true h4
  have hi : i < s.size := by omega
  refine Y.condT (F.e 7 rfl) ?_
  refine Y.skip ?_
  refine X.thenN ?_
  refine Y.seq ?_
  refine Y.block ?_
  refine Y.sg F [(0, .string s), (3, Vi i), (5, Vi (s.size : Nat)), (6, Vi i)] (Y.pv F (X.move rfl (F.e 6 rfl)) fun ac F=>Y.pv F (X.assign rfl (F.e 8 rfl)) fun ac F=>Y.fin F) ?_;clear F ac;intro ac F
  refine Y.sl ?_
  refine Y.pv4 F (X.move rfl (F.e 0 rfl)) (fun _ F=>X.move rfl (F.e 3 rfl)) (fun _ F=>Y.inS (k := i) rfl (F.e 9 rfl) (F.e 10 rfl) Try.underlying9 (by omega) (by omega)) (fun _ F=>X.binop rfl (F.e 11 rfl) (X.kc (.int .u8 97) rfl) (Y.lssU Try.underlying5 rfl)) ?_;clear F ac;intro ac F
  refine Y.pv F (X.move rfl (F.e 12 rfl)) ?_;clear F ac;intro ac F
  cases h5 : decide (((((s)[i]?.getD 0).toNat : Nat) : Int) < 97) with
  | false =>
   try rw [h5] at F
   have h5p : ¬ (((((s)[i]?.getD 0).toNat : Nat) : Int) < 97) := of_decide_eq_false h5
   refine Y.pg F 4 13 false (X.move rfl (F.e 0 rfl)) ?_;clear F ac;intro ac F
   refine Y.pg F 4 13 false (X.move rfl (F.e 3 rfl)) ?_;clear F ac;intro ac F
   refine Y.pg F 4 13 false (Y.inS (k := i) rfl (F.e 14 rfl) (F.e 15 rfl) Try.underlying9 (by omega) (by omega)) ?_;clear F ac;intro ac F
   refine Y.pg F 4 13 false (X.binop rfl (F.e 16 rfl) (X.kc (.int .u8 122) rfl) (Y.gtrU Try.underlying5 rfl)) ?_;clear F ac;intro ac F
   refine Y.pv F (X.pickF rfl (F.e 13 rfl) (F.e 17 rfl)) ?_;clear F ac;intro ac F
   refine Y.nt F [(0, .string s), (5, Vi (s.size : Nat)), (6, Vi i), (18, .bool (decide ((122 : Int) < (((s)[i]?.getD 0).toNat : Nat))))] ?_;clear F ac;intro ac F
   cases h6 : decide ((122 : Int) < (((s)[i]?.getD 0).toNat : Nat)) with
   | false =>
    try rw [h6] at F
    have h6p : ¬ ((122 : Int) < (((s)[i]?.getD 0).toNat : Nat)) := of_decide_eq_false h6
    refine Y.condF (F.e 18 rfl) ?_
    refine Y.skip ?_
    refine X.blockN (X.thenN ?_)
    refine Y.lg F [(0, .string s), (5, Vi (s.size : Nat)), (6, Vi ((i : Int) + 1))] (by
     refine Y.pv F (X.binop rfl (F.e 6 rfl) (X.kc (Vi 1) rfl) (X.addI Try.underlying3 rfl (by omega) (by omega))) fun ac F=>?_
     refine Y.pv F (X.move rfl (F.e 19 rfl)) fun ac F=>?_
     exact Y.fin F) ?_;clear F ac;intro ac F
    refine ⟨_, ?_, i + 1, rfl, GB_, by omega, allN_succ hok (by simp [byteB, h5, h6] <;> omega), hww, F.sub _⟩
    omega
   | true =>
    try rw [h6] at F
    have h6p : ((122 : Int) < (((s)[i]?.getD 0).toNat : Nat)) := of_decide_eq_true h6
    refine Y.condT (F.e 18 rfl) ?_
    refine Y.sg F [(2, .bool false)] (Y.pv F (X.assign rfl (X.kc (.bool false) rfl)) fun ac F=>Y.fin F) ?_;clear F ac;intro ac F
    refine Y.ret ?_
    refine X.blockR (X.thenR (X.thenR (X.blockR (X.thenR ?_))))
    exact Y.ret0 (v := .bool false) F (Y.r1 F) ⟨by rw [name_bad hi (by simp [byteB, h5, h6] <;> omega)], hww⟩
  | true =>
   try rw [h5] at F
   have h5p : (((((s)[i]?.getD 0).toNat : Nat) : Int) < 97) := of_decide_eq_true h5
   refine Y.ps F 4 13 true ?_;clear F ac;intro ac F
   refine Y.ps F 4 13 true ?_;clear F ac;intro ac F
   refine Y.ps F 4 13 true ?_;clear F ac;intro ac F
   refine Y.ps F 4 13 true ?_;clear F ac;intro ac F
   refine Y.pv F (X.pickT rfl (F.e 13 rfl) (X.kc (.bool true) rfl)) ?_;clear F ac;intro ac F
   refine Y.nt F [(0, .string s), (5, Vi (s.size : Nat)), (6, Vi i), (18, .bool true)] ?_;clear F ac;intro ac F
   refine Y.condT (F.e 18 rfl) ?_
   refine Y.sg F [(2, .bool false)] (Y.pv F (X.assign rfl (X.kc (.bool false) rfl)) fun ac F=>Y.fin F) ?_;clear F ac;intro ac F
   refine Y.ret ?_
   refine X.blockR (X.thenR (X.thenR (X.blockR (X.thenR ?_))))
   exact Y.ret0 (v := .bool false) F (Y.r1 F) ⟨by rw [name_bad hi (by simp [byteB, h5] <;> omega)], hww⟩
set_option maxRecDepth 100000 in
set_option maxHeartbeats 400000 in
theorem named2_any (s : ByteArray) (w : World) (hs : s.size ≤ 9223372036854775807) :
  Calls Try.prog 97 #[.string s] w fun e w' => e = .returned (.bool (nameB s)) ∧ w' = w := by
 have G := Gr.refl w
 refine Y.calls 28 Try.func97 rfl rfl ?_
 intro ac F0
 have F : Fr ac 28 [(0, .string s)] := F0.sub _
 clear F0
 refine Y.sg F [(0, .string s)] (Y.pv F (X.assign rfl (X.kc (.bool false) rfl)) fun ac F=>Y.fin F) ?_;clear F ac;intro ac F
 refine Y.seq ?_
 refine Y.sl ?_
 refine Y.pv4 F (X.move rfl (F.e 0 rfl)) (fun _ F=>Y.lenS Try.underlying9 rfl (F.e 4 rfl)) (fun _ F=>X.binop rfl (F.e 5 rfl) (X.kc (Vi 1) rfl) (X.lssI Try.underlying3 rfl)) (fun _ F=>X.move rfl (F.e 6 rfl)) ?_;clear F ac;intro ac F
 cases h3 : decide (((s.size : Nat) : Int) < 1) with
 | false =>
  try rw [h3] at F
  have h3p : ¬ (((s.size : Nat) : Int) < 1) := of_decide_eq_false h3
  refine Y.pg F 3 7 false (X.move rfl (F.e 0 rfl)) ?_;clear F ac;intro ac F
  refine Y.pg F 3 7 false (Y.lenS Try.underlying9 rfl (F.e 8 rfl)) ?_;clear F ac;intro ac F
  refine Y.pg F 3 7 false (X.binop rfl (F.e 9 rfl) (X.kc (Vi 8) rfl) (X.gtrI Try.underlying3 rfl)) ?_;clear F ac;intro ac F
  refine Y.pv F (X.pickF rfl (F.e 7 rfl) (F.e 10 rfl)) ?_;clear F ac;intro ac F
  refine Y.nt F [(0, .string s), (11, .bool (decide ((8 : Int) < (s.size : Nat))))] ?_;clear F ac;intro ac F
  cases h4 : decide ((8 : Int) < (s.size : Nat)) with
  | false =>
   try rw [h4] at F
   have h4p : ¬ ((8 : Int) < (s.size : Nat)) := of_decide_eq_false h4
   refine Y.condF (F.e 11 rfl) ?_
   refine Y.skip ?_
   refine X.thenN ?_
   refine Y.seq ?_
   refine Y.sg F [(0, .string s), (3, Vi 0)] (Y.pv F (X.assign rfl (X.kc (Vi 0) rfl)) fun ac F=>Y.fin F) ?_;clear F ac;intro ac F
   refine Y.block ?_
   have GB := G
   refine Y.loop (fun me_ ac wr => ∃ (i : Nat), me_ = s.size - i ∧ Gr w wr ∧ i ≤ s.size ∧ allN (byteB s) i = true ∧ wr = w ∧ Fr ac 28 [(0, .string s), (3, Vi i)]) _ ⟨0, rfl, Gr.refl _, Nat.zero_le _, rfl, rfl, F.sub _⟩ ?_
   clear F
   intro me_ ac w5 hI
   obtain ⟨i, rfl, gr, hi0, hok, hww, F⟩ := hI
   replace G := GB.trans gr
   have GB_ := gr
   clear gr
   refine Y.seq ?_
   refine Y.sg F [(0, .string s), (3, Vi i), (15, .bool (decide ((i : Int) < (s.size : Nat))))] (Y.pv F (X.move rfl (F.e 3 rfl)) fun ac F=>Y.pv F (X.move rfl (F.e 0 rfl)) fun ac F=>Y.pv F (Y.lenS Try.underlying9 rfl (F.e 13 rfl)) fun ac F=>Y.pv F (X.binop rfl (F.e 12 rfl) (F.e 14 rfl) (X.lssI Try.underlying3 rfl)) fun ac F=>Y.fin F) ?_;clear F ac;intro ac F
   cases h6 : decide ((i : Int) < (s.size : Nat)) with
   | false =>
    try rw [h6] at F
    have h6p : ¬ ((i : Int) < (s.size : Nat)) := of_decide_eq_false h6
    obtain rfl : i = s.size := by omega
    refine Y.condF (F.e 15 rfl) ?_
    refine Y.exit ?_
    refine X.thenX (X.thenX (X.blockX (X.thenN ?_)))
    refine Y.sg F [(2, .bool true)] (Y.pv F (X.assign rfl (X.kc (.bool true) rfl)) fun ac F=>Y.fin F) ?_;clear F ac;intro ac F
    refine Y.ret ?_
    exact Y.ret0 (v := .bool true) F (Y.r1 F) ⟨by rw [name_bytes (by omega) (by omega) hok], hww⟩
   | true =>
    try rw [h6] at F
    have h6p : ((i : Int) < (s.size : Nat)) := of_decide_eq_true h6
    have hi : i < s.size := by omega
    refine Y.condT (F.e 15 rfl) ?_
    refine Y.skip ?_
    refine X.thenN ?_
    refine Y.seq ?_
    refine Y.block ?_
    refine Y.sl ?_
    refine Y.pv4 F (X.move rfl (F.e 0 rfl)) (fun _ F=>X.move rfl (F.e 3 rfl)) (fun _ F=>Y.inS (k := i) rfl (F.e 18 rfl) (F.e 19 rfl) Try.underlying9 (by omega) (by omega)) (fun _ F=>X.binop rfl (F.e 20 rfl) (X.kc (.int .u8 97) rfl) (Y.lssU Try.underlying5 rfl)) ?_;clear F ac;intro ac F
    refine Y.pv F (X.move rfl (F.e 21 rfl)) ?_;clear F ac;intro ac F
    cases h7 : decide (((((s)[i]?.getD 0).toNat : Nat) : Int) < 97) with
    | false =>
     try rw [h7] at F
     have h7p : ¬ (((((s)[i]?.getD 0).toNat : Nat) : Int) < 97) := of_decide_eq_false h7
     refine Y.pg F 4 22 false (X.move rfl (F.e 0 rfl)) ?_;clear F ac;intro ac F
     refine Y.pg F 4 22 false (X.move rfl (F.e 3 rfl)) ?_;clear F ac;intro ac F
     refine Y.pg F 4 22 false (Y.inS (k := i) rfl (F.e 23 rfl) (F.e 24 rfl) Try.underlying9 (by omega) (by omega)) ?_;clear F ac;intro ac F
     refine Y.pg F 4 22 false (X.binop rfl (F.e 25 rfl) (X.kc (.int .u8 122) rfl) (Y.gtrU Try.underlying5 rfl)) ?_;clear F ac;intro ac F
     refine Y.pv F (X.pickF rfl (F.e 22 rfl) (F.e 26 rfl)) ?_;clear F ac;intro ac F
     refine Y.nt F [(0, .string s), (3, Vi i), (27, .bool (decide ((122 : Int) < (((s)[i]?.getD 0).toNat : Nat))))] ?_;clear F ac;intro ac F
     cases h8 : decide ((122 : Int) < (((s)[i]?.getD 0).toNat : Nat)) with
     | false =>
      try rw [h8] at F
      have h8p : ¬ ((122 : Int) < (((s)[i]?.getD 0).toNat : Nat)) := of_decide_eq_false h8
      refine Y.condF (F.e 27 rfl) ?_
      refine Y.skip ?_
      refine X.blockN (X.thenN ?_)
      refine Y.lg F [(0, .string s), (3, Vi ((i : Int) + 1))] (by
       refine Y.pv F (X.move rfl (F.e 3 rfl)) fun ac F=>?_
       refine Y.pv F (X.binop rfl (F.e 16 rfl) (X.kc (Vi 1) rfl) (X.addI Try.underlying3 rfl (by omega) (by omega))) fun ac F=>?_
       refine Y.pv F (X.assign rfl (F.e 17 rfl)) fun ac F=>?_
       exact Y.fin F) ?_;clear F ac;intro ac F
      refine ⟨_, ?_, i + 1, rfl, GB_, by omega, allN_succ hok (by simp [byteB, h7, h8] <;> omega), hww, F.sub _⟩
      omega
     | true =>
      try rw [h8] at F
      have h8p : ((122 : Int) < (((s)[i]?.getD 0).toNat : Nat)) := of_decide_eq_true h8
      refine Y.condT (F.e 27 rfl) ?_
      refine Y.sg F [(2, .bool false)] (Y.pv F (X.assign rfl (X.kc (.bool false) rfl)) fun ac F=>Y.fin F) ?_;clear F ac;intro ac F
      refine Y.ret ?_
      refine X.blockR (X.thenR (X.thenR (X.blockR (X.thenR ?_))))
      exact Y.ret0 (v := .bool false) F (Y.r1 F) ⟨by rw [name_bad hi (by simp [byteB, h7, h8] <;> omega)], hww⟩
    | true =>
     try rw [h7] at F
     have h7p : (((((s)[i]?.getD 0).toNat : Nat) : Int) < 97) := of_decide_eq_true h7
     refine Y.ps F 4 22 true ?_;clear F ac;intro ac F
     refine Y.ps F 4 22 true ?_;clear F ac;intro ac F
     refine Y.ps F 4 22 true ?_;clear F ac;intro ac F
     refine Y.ps F 4 22 true ?_;clear F ac;intro ac F
     refine Y.pv F (X.pickT rfl (F.e 22 rfl) (X.kc (.bool true) rfl)) ?_;clear F ac;intro ac F
     refine Y.nt F [(0, .string s), (3, Vi i), (27, .bool true)] ?_;clear F ac;intro ac F
     refine Y.condT (F.e 27 rfl) ?_
     refine Y.sg F [(2, .bool false)] (Y.pv F (X.assign rfl (X.kc (.bool false) rfl)) fun ac F=>Y.fin F) ?_;clear F ac;intro ac F
     refine Y.ret ?_
     refine X.blockR (X.thenR (X.thenR (X.blockR (X.thenR ?_))))
     exact Y.ret0 (v := .bool false) F (Y.r1 F) ⟨by rw [name_bad hi (by simp [byteB, h7] <;> omega)], hww⟩
  | true =>
   try rw [h4] at F
   have h4p : ((8 : Int) < (s.size : Nat)) := of_decide_eq_true h4
   refine Y.condT (F.e 11 rfl) ?_
   refine Y.sg F [(2, .bool false)] (Y.pv F (X.assign rfl (X.kc (.bool false) rfl)) fun ac F=>Y.fin F) ?_;clear F ac;intro ac F
   refine Y.ret ?_
   refine X.thenR ?_
   exact Y.ret0 (v := .bool false) F (Y.r1 F) ⟨by rw [name_short (by omega)], rfl⟩
 | true =>
  try rw [h3] at F
  have h3p : (((s.size : Nat) : Int) < 1) := of_decide_eq_true h3
  refine Y.ps F 3 7 true ?_;clear F ac;intro ac F
  refine Y.ps F 3 7 true ?_;clear F ac;intro ac F
  refine Y.ps F 3 7 true ?_;clear F ac;intro ac F
  refine Y.pv F (X.pickT rfl (F.e 7 rfl) (X.kc (.bool true) rfl)) ?_;clear F ac;intro ac F
  refine Y.nt F [(0, .string s), (11, .bool true)] ?_;clear F ac;intro ac F
  refine Y.condT (F.e 11 rfl) ?_
  refine Y.sg F [(2, .bool false)] (Y.pv F (X.assign rfl (X.kc (.bool false) rfl)) fun ac F=>Y.fin F) ?_;clear F ac;intro ac F
  refine Y.ret ?_
  refine X.thenR ?_
  exact Y.ret0 (v := .bool false) F (Y.r1 F) ⟨by rw [name_short (by omega)], rfl⟩
set_option maxRecDepth 100000 in
set_option maxHeartbeats 400000 in
theorem isTask_any (p : Pb) (ta ha ba la : Option Addr) (tc hc bc lc : Nat) (x : Int) (w : World) :
  Calls Try.prog 61 #[.agg #[.slice ta p.nt tc, .slice ha p.nh hc, .slice ba p.nb bc, .slice la p.nl lc], Vi x] w fun e w' => e = .returned (.bool (isT p x)) ∧ Gr w w' := by
 have G := Gr.refl w
 refine Y.calls 14 Try.func61 rfl rfl ?_
 intro ac F0
 have F : Fr ac 14 [(0, .agg #[.slice ta p.nt tc, .slice ha p.nh hc, .slice ba p.nb bc, .slice la p.nl lc]), (1, Vi x)] := F0.sub _
 clear F0
 refine Y.sl ?_
 refine Y.pv F (X.box rfl (F.e 0 rfl) X.bx) ?_;clear F ac;intro ac F
 obtain ⟨w3, hw_, g, hb, hbl, hC2⟩ := Y.bxd (RCells.nil w) #[.slice ta p.nt tc, .slice ha p.nh hc, .slice ba p.nb bc, .slice la p.nl lc] 27;rw [hw_];clear hw_
 replace G := G.trans g
 have hC := hC2
 clear hC2
 clear g hb hbl
 refine Y.pv F (X.assign rfl (X.kc (.bool false) rfl)) ?_;clear F ac;intro ac F
 refine Y.nt F [(1, Vi x), (2, Vp w.heap.size)] ?_;clear F ac;intro ac F
 refine Y.sl ?_
 refine Y.pv3 F (X.move rfl (F.e 1 rfl)) (fun _ F=>X.binop rfl (F.e 5 rfl) (X.kc (Vi 0) rfl) (X.geqI Try.underlying3 rfl)) (fun _ F=>X.move rfl (F.e 6 rfl)) ?_;clear F ac;intro ac F
 cases h4 : decide ((0 : Int) ≤ x) with
 | false =>
  try rw [h4] at F
  have h4p : ¬ ((0 : Int) ≤ x) := of_decide_eq_false h4
  refine Y.ps F 2 7 false ?_;clear F ac;intro ac F
  refine Y.ps F 2 7 false ?_;clear F ac;intro ac F
  refine Y.ps F 2 7 false ?_;clear F ac;intro ac F
  refine Y.ps F 2 7 false ?_;clear F ac;intro ac F
  refine Y.ps F 2 7 false ?_;clear F ac;intro ac F
  refine Y.pv2 F (X.pickF rfl (F.e 7 rfl) (X.kc (.bool false) rfl)) (fun _ F=>X.assign rfl (F.e 13 rfl)) ?_;clear F ac;intro ac F
  refine Y.nt F [(4, .bool false)] ?_;clear F ac;intro ac F
  refine Y.ret ?_
  exact Y.ret0 (v := .bool false) F (Y.r1 F) ⟨by simp [isT, h4], G⟩
 | true =>
  try rw [h4] at F
  have h4p : ((0 : Int) ≤ x) := of_decide_eq_true h4
  refine Y.pg F 2 7 true (X.move rfl (F.e 1 rfl)) ?_;clear F ac;intro ac F
  refine Y.pg F 2 7 true (X.field rfl (F.e 2 rfl) (X.fld Try.underlying27 rfl (Try.siz22 _) rfl rfl)) ?_;clear F ac;intro ac F
  refine Y.pg F 2 7 true (X.load rfl (F.e 9 rfl) (X.ld1 (Try.agg22 _) (hC.at 0 rfl))) ?_;clear F ac;intro ac F
  refine Y.pg F 2 7 true (X.len1 Try.underlying22 rfl (F.e 10 rfl)) ?_;clear F ac;intro ac F
  refine Y.pg F 2 7 true (X.binop rfl (F.e 8 rfl) (F.e 11 rfl) (X.lssI Try.underlying3 rfl)) ?_;clear F ac;intro ac F
  refine Y.pv2 F (X.pickT rfl (F.e 7 rfl) (F.e 12 rfl)) (fun _ F=>X.assign rfl (F.e 13 rfl)) ?_;clear F ac;intro ac F
  refine Y.nt F [(4, .bool (decide ((x : Int) < p.nt)))] ?_;clear F ac;intro ac F
  refine Y.ret ?_
  exact Y.ret0 (v := .bool (decide ((x : Int) < p.nt))) F (Y.r1 F) ⟨by simp [isT, h4], G⟩
set_option maxRecDepth 100000 in
set_option maxHeartbeats 400000 in
theorem isHost_any (p : Pb) (ta ha ba la : Option Addr) (tc hc bc lc : Nat) (x : Int) (w : World) :
  Calls Try.prog 62 #[.agg #[.slice ta p.nt tc, .slice ha p.nh hc, .slice ba p.nb bc, .slice la p.nl lc], Vi x] w fun e w' => e = .returned (.bool (isH p x)) ∧ Gr w w' := by
 have G := Gr.refl w
 refine Y.calls 14 Try.func62 rfl rfl ?_
 intro ac F0
 have F : Fr ac 14 [(0, .agg #[.slice ta p.nt tc, .slice ha p.nh hc, .slice ba p.nb bc, .slice la p.nl lc]), (1, Vi x)] := F0.sub _
 clear F0
 refine Y.sl ?_
 refine Y.pv F (X.box rfl (F.e 0 rfl) X.bx) ?_;clear F ac;intro ac F
 obtain ⟨w3, hw_, g, hb, hbl, hC2⟩ := Y.bxd (RCells.nil w) #[.slice ta p.nt tc, .slice ha p.nh hc, .slice ba p.nb bc, .slice la p.nl lc] 27;rw [hw_];clear hw_
 replace G := G.trans g
 have hC := hC2
 clear hC2
 clear g hb hbl
 refine Y.pv F (X.assign rfl (X.kc (.bool false) rfl)) ?_;clear F ac;intro ac F
 refine Y.nt F [(1, Vi x), (2, Vp w.heap.size)] ?_;clear F ac;intro ac F
 refine Y.sl ?_
 refine Y.pv3 F (X.move rfl (F.e 1 rfl)) (fun _ F=>X.binop rfl (F.e 5 rfl) (X.kc (Vi 0) rfl) (X.geqI Try.underlying3 rfl)) (fun _ F=>X.move rfl (F.e 6 rfl)) ?_;clear F ac;intro ac F
 cases h4 : decide ((0 : Int) ≤ x) with
 | false =>
  try rw [h4] at F
  have h4p : ¬ ((0 : Int) ≤ x) := of_decide_eq_false h4
  refine Y.ps F 2 7 false ?_;clear F ac;intro ac F
  refine Y.ps F 2 7 false ?_;clear F ac;intro ac F
  refine Y.ps F 2 7 false ?_;clear F ac;intro ac F
  refine Y.ps F 2 7 false ?_;clear F ac;intro ac F
  refine Y.ps F 2 7 false ?_;clear F ac;intro ac F
  refine Y.pv2 F (X.pickF rfl (F.e 7 rfl) (X.kc (.bool false) rfl)) (fun _ F=>X.assign rfl (F.e 13 rfl)) ?_;clear F ac;intro ac F
  refine Y.nt F [(4, .bool false)] ?_;clear F ac;intro ac F
  refine Y.ret ?_
  exact Y.ret0 (v := .bool false) F (Y.r1 F) ⟨by simp [isH, h4], G⟩
 | true =>
  try rw [h4] at F
  have h4p : ((0 : Int) ≤ x) := of_decide_eq_true h4
  refine Y.pg F 2 7 true (X.move rfl (F.e 1 rfl)) ?_;clear F ac;intro ac F
  refine Y.pg F 2 7 true (X.field rfl (F.e 2 rfl) (X.fld Try.underlying27 rfl (Try.siz23 _) rfl rfl)) ?_;clear F ac;intro ac F
  refine Y.pg F 2 7 true (X.load rfl (F.e 9 rfl) (X.ld1 (Try.agg23 _) (hC.at 1 rfl))) ?_;clear F ac;intro ac F
  refine Y.pg F 2 7 true (X.len1 Try.underlying23 rfl (F.e 10 rfl)) ?_;clear F ac;intro ac F
  refine Y.pg F 2 7 true (X.binop rfl (F.e 8 rfl) (F.e 11 rfl) (X.lssI Try.underlying3 rfl)) ?_;clear F ac;intro ac F
  refine Y.pv2 F (X.pickT rfl (F.e 7 rfl) (F.e 12 rfl)) (fun _ F=>X.assign rfl (F.e 13 rfl)) ?_;clear F ac;intro ac F
  refine Y.nt F [(4, .bool (decide ((x : Int) < p.nh)))] ?_;clear F ac;intro ac F
  refine Y.ret ?_
  exact Y.ret0 (v := .bool (decide ((x : Int) < p.nh))) F (Y.r1 F) ⟨by simp [isH, h4], G⟩
end
section
open Go.RowKit

set_option maxRecDepth 100000 in
set_option maxHeartbeats 400000 in
theorem costs1_any (x : Int) (w : World) :
  Calls Try.prog 95 #[Vi x] w fun e w' => e = .returned (.bool (!amtB x)) ∧ w' = w := by
 have G := Gr.refl w
 refine Y.calls 6 Try.func95 rfl rfl ?_
 intro ac F0
 have F : Fr ac 6 [(0, Vi x)] := F0.sub _
 clear F0
 refine Y.sg F [(0, Vi x)] (Y.pv F (X.assign rfl (X.kc (.bool false) rfl)) fun ac F=>Y.fin F) ?_;clear F ac;intro ac F
 refine Y.sl ?_
 refine Y.pv F (X.move rfl (F.e 0 rfl)) ?_;clear F ac;intro ac F
 refine Y.pc F 56 (X.a3 (F.e 3 rfl) (X.kc (Vi 0) rfl) (X.kc (Vi 100000) rfl)) Try.func56 (within_any x 0 100000 w) ?_
 clear F ac
 rintro e w' ⟨rfl, hw_⟩
 obtain rfl : w = w' := hw_.symm
 clear hw_
 refine ⟨_, rfl, ?_⟩
 intro ac F
 refine Y.pv2 F (X.notB rfl (F.e 4 rfl) rfl) (fun _ F=>X.assign rfl (F.e 5 rfl)) ?_;clear F ac;intro ac F
 refine Y.nt F [(2, .bool (!(withinB x 0 100000)))] ?_;clear F ac;intro ac F
 refine Y.ret ?_
 exact Y.ret0 (v := .bool (!(withinB x 0 100000))) F (Y.r1 F) ⟨rfl, rfl⟩
set_option maxRecDepth 100000 in
set_option maxHeartbeats 400000 in
theorem idx115_95 (a : Option Addr) (n c : Nat) (xs : List Int) (w : World) (hx : Ints w a n xs) :
  Calls Try.prog 115 #[.slice a n c, .func (.func 95) #[] #[]] w fun e w' => e = .returned (Vi (firI (fun i => !amtB (xs[i]?.getD 0)) n)) ∧ Gr w w' := by
 have G := Gr.refl w
 have hlen := hx.len
 have hlt := hx.lt
 refine Y.calls 19 Try.func115 rfl rfl ?_
 intro ac F0
 have F : Fr ac 19 [(0, .slice a n c), (1, .func (.func 95) #[] #[])] := F0.sub _
 clear F0
 refine Y.sg F [(0, .slice a n c), (1, .func (.func 95) #[] #[])] (Y.pv F (X.assign rfl (X.kc (Vi 0) rfl)) fun ac F=>Y.fin F) ?_;clear F ac;intro ac F
 refine Y.seq ?_
 refine Y.sg F [(0, .slice a n c), (1, .func (.func 95) #[] #[]), (7, Vi n), (8, Vi 0)] (Y.pv F (X.move rfl (F.e 0 rfl)) fun ac F=>Y.pv F (X.len1 Try.underlying34 rfl (F.e 6 rfl)) fun ac F=>Y.pv F (X.move rfl (X.kc (Vi 0) rfl)) fun ac F=>Y.fin F) ?_;clear F ac;intro ac F
 refine Y.block ?_
 have hxB := hx
 have GB := G
 refine Y.loop (fun me_ ac wr => ∃ (i : Nat), me_ = n - i ∧ Gr w wr ∧ i ≤ n ∧ allN (fun i => !(!amtB (xs[i]?.getD 0))) i = true ∧ Fr ac 19 [(0, .slice a n c), (1, .func (.func 95) #[] #[]), (7, Vi n), (8, Vi i)]) _ ⟨0, rfl, Gr.refl _, Nat.zero_le _, rfl, F.sub _⟩ ?_
 clear F
 intro me_ ac w3 hI
 obtain ⟨i, rfl, gr, hi0, hok, F⟩ := hI
 replace G := GB.trans gr
 replace hx := hxB.gr gr
 have GB_ := gr
 clear gr
 refine Y.sg F [(0, .slice a n c), (1, .func (.func 95) #[] #[]), (7, Vi n), (8, Vi i), (9, .bool (decide ((i : Int) < n)))] (Y.pv F (X.binop rfl (F.e 8 rfl) (F.e 7 rfl) (X.lssI Try.underlying3 rfl)) fun ac F=>Y.fin F) ?_;clear F ac;intro ac F
 refine Y.seq ?_
 cases h4 : decide ((i : Int) < n) with
 | false =>
  try rw [h4] at F
  have h4p : ¬ ((i : Int) < n) := of_decide_eq_false h4
  obtain rfl : i = n := by omega
  refine Y.condF (F.e 9 rfl) ?_
  refine Y.exit ?_
  refine X.thenX (X.thenX (X.blockX (X.thenN ?_)))
  refine Y.sg F [(4, Vi (-1))] (Y.pv F (X.assign rfl (X.kc (Vi (-1)) rfl)) fun ac F=>Y.fin F) ?_;clear F ac;intro ac F
  refine Y.ret ?_
  exact Y.ret0 (v := Vi (-1)) F (Y.r1 F) ⟨ret_int ((firI_none hok).symm), G⟩
 | true =>
  try rw [h4] at F
  have h4p : ((i : Int) < n) := of_decide_eq_true h4
  have hi : i < n := by omega
  refine Y.condT (F.e 9 rfl) ?_
  refine Y.skip ?_
  refine X.thenN ?_
  refine Y.seq ?_
  refine Y.block ?_
  refine Y.sg F [(0, .slice a n c), (1, .func (.func 95) #[] #[]), (5, Vi i), (7, Vi n), (8, Vi i)] (Y.pv F (X.move rfl (F.e 8 rfl)) fun ac F=>Y.pv F (X.assign rfl (F.e 10 rfl)) fun ac F=>Y.fin F) ?_;clear F ac;intro ac F
  refine Y.sl ?_
  refine Y.pv3 F (X.move rfl (F.e 1 rfl)) (fun _ F=>X.move rfl (F.e 0 rfl)) (fun _ F=>X.move rfl (F.e 5 rfl)) ?_;clear F ac;intro ac F
  obtain ⟨pd5, pe5, -, pc5⟩ := hx.at (j := i) (by omega)
  subst pe5
  have hC : RCells w3 [(pd5.add i, Vi (xs[i]?.getD 0))] := (RCells.cons pc5 (RCells.nil _))
  clear pc5
  refine Y.pval F (X.w0 rfl) rfl (X.index rfl (F.e 12 rfl) (F.e 13 rfl) (X.idx (k := i) Try.underlying34 (Try.siz3 _) (by omega) (by omega) (by rw [Nat.mul_one]))) ?_;clear F ac;intro ac F
  refine Y.pv F (X.load rfl (F.e 14 rfl) (X.ld1 (Try.agg3 _) (hC.at 0 rfl))) ?_;clear F ac;intro ac F
  refine Y.pcall F (X.w0 rfl) rfl (X.enter (F := 95) rfl (F.e 11 rfl) (X.a1 (F.e 15 rfl)) (enters_of Try.func95 (by kernel_rfl) rfl _)) (costs1_any (xs[i]?.getD 0) w3) ?_
  clear F ac
  rintro e w' ⟨rfl, hw_⟩
  obtain rfl : w3 = w' := hw_.symm
  clear hw_
  refine ⟨_, rfl, ?_⟩
  intro ac F
  refine Y.nt F [(0, .slice (some pd5) n c), (1, .func (.func 95) #[] #[]), (5, Vi i), (7, Vi n), (8, Vi i), (16, .bool (!amtB (xs[i]?.getD 0)))] ?_;clear F ac;intro ac F
  cases h6 : amtB (xs[i]?.getD 0) with
  | false =>
   try rw [h6] at F
   refine Y.condT (F.e 16 rfl) ?_
   refine Y.sg F [(4, Vi i)] (Y.pv F (X.move rfl (F.e 5 rfl)) fun ac F=>Y.pv F (X.assign rfl (F.e 17 rfl)) fun ac F=>Y.fin F) ?_;clear F ac;intro ac F
   refine Y.ret ?_
   refine X.blockR (X.thenR (X.thenR (X.blockR (X.thenR ?_))))
   exact Y.ret0 (v := Vi i) F (Y.r1 F) ⟨ret_int ((firI_some (f := fun i => !amtB (xs[i]?.getD 0)) hi hok (by simp [h6])).symm), G⟩
  | true =>
   try rw [h6] at F
   refine Y.condF (F.e 16 rfl) ?_
   refine Y.skip ?_
   refine X.blockN (X.thenN ?_)
   refine Y.lg F [(0, .slice (some pd5) n c), (1, .func (.func 95) #[] #[]), (7, Vi n), (8, Vi ((i : Int) + 1))] (by
    refine Y.pv F (X.binop rfl (F.e 8 rfl) (X.kc (Vi 1) rfl) (X.addI Try.underlying3 rfl (by omega) (by omega))) fun ac F=>?_
    refine Y.pv F (X.move rfl (F.e 18 rfl)) fun ac F=>?_
    exact Y.fin F) ?_;clear F ac;intro ac F
   refine ⟨_, ?_, i + 1, rfl, GB_, by omega, allN_succ hok (by simp [h6]), F.sub _⟩
   omega
theorem not_notB (f : Nat → Bool) (n : Nat) : allN (fun i => !(!f i)) n = allN f n := allN_congr (fun i _ => by simp)
set_option maxRecDepth 100000 in
set_option maxHeartbeats 400000 in
theorem con94_95 (a : Option Addr) (n c : Nat) (xs : List Int) (w : World) (hx : Ints w a n xs) :
  Calls Try.prog 94 #[.slice a n c, .func (.func 95) #[] #[]] w fun e w' => e = .returned (.bool (!allN (fun i => amtB (xs[i]?.getD 0)) n)) ∧ Gr w w' := by
 have G := Gr.refl w
 refine Y.calls 9 Try.func94 rfl rfl ?_
 intro ac F0
 have F : Fr ac 9 [(0, .slice a n c), (1, .func (.func 95) #[] #[])] := F0.sub _
 clear F0
 refine Y.sg F [(0, .slice a n c), (1, .func (.func 95) #[] #[])] (Y.pv F (X.assign rfl (X.kc (.bool false) rfl)) fun ac F=>Y.fin F) ?_;clear F ac;intro ac F
 refine Y.sl ?_
 refine Y.pv2 F (X.move rfl (F.e 0 rfl)) (fun _ F=>X.move rfl (F.e 1 rfl)) ?_;clear F ac;intro ac F
 refine Y.pc F 115 (X.a2 (F.e 5 rfl) (F.e 6 rfl)) Try.func115 (idx115_95 a n c xs w hx) ?_
 clear F ac
 rintro e w3 ⟨rfl, g⟩
 refine ⟨_, rfl, ?_⟩
 intro ac F
 replace G := G.trans g
 replace hx := hx.gr g
 clear g
 refine Y.pv2 F (X.binop rfl (F.e 7 rfl) (X.kc (Vi 0) rfl) (X.geqI Try.underlying3 rfl)) (fun _ F=>X.assign rfl (F.e 8 rfl)) ?_;clear F ac;intro ac F
 refine Y.nt F [(4, .bool (decide ((0 : Int) ≤ (firI (fun i => !amtB (xs[i]?.getD 0)) n))))] ?_;clear F ac;intro ac F
 refine Y.ret ?_
 exact Y.ret0 (v := .bool (decide ((0 : Int) ≤ (firI (fun i => !amtB (xs[i]?.getD 0)) n)))) F (Y.r1 F) ⟨by rw [firI_any (f := fun i => !amtB (xs[i]?.getD 0)), not_notB], G⟩
set_option maxRecDepth 100000 in
set_option maxHeartbeats 400000 in
theorem costs_any (a : Option Addr) (n c : Nat) (xs : List Int) (w : World) (hx : Ints w a n xs) :
  Calls Try.prog 55 #[.slice a n c] w fun e w' => e = .returned (.bool (allN (fun i => amtB (xs[i]?.getD 0)) n)) ∧ Gr w w' := by
 have G := Gr.refl w
 refine Y.calls 6 Try.func55 rfl rfl ?_
 intro ac F0
 have F : Fr ac 6 [(0, .slice a n c)] := F0.sub _
 clear F0
 refine Y.sg F [(0, .slice a n c)] (Y.pv F (X.assign rfl (X.kc (.bool false) rfl)) fun ac F=>Y.fin F) ?_;clear F ac;intro ac F
 refine Y.sl ?_
 refine Y.pv F (X.move rfl (F.e 0 rfl)) ?_;clear F ac;intro ac F
 refine Y.pc F 94 (X.a2 (F.e 3 rfl) (X.kc (.func (.func 95) #[] #[]) rfl)) Try.func94 (con94_95 a n c xs w hx) ?_
 clear F ac
 rintro e w3 ⟨rfl, g⟩
 refine ⟨_, rfl, ?_⟩
 intro ac F
 replace G := G.trans g
 replace hx := hx.gr g
 clear g
 refine Y.pv2 F (X.notB rfl (F.e 4 rfl) rfl) (fun _ F=>X.assign rfl (F.e 5 rfl)) ?_;clear F ac;intro ac F
 refine Y.nt F [(2, .bool (!(!allN (fun i => amtB (xs[i]?.getD 0)) n)))] ?_;clear F ac;intro ac F
 refine Y.ret ?_
 exact Y.ret0 (v := .bool (!(!allN (fun i => amtB (xs[i]?.getD 0)) n))) F (Y.r1 F) ⟨by rw [Bool.not_not], G⟩
end
section
open Go.RowKit

set_option maxRecDepth 100000 in
set_option maxHeartbeats 400000 in
theorem same53_any (u s : ByteArray) (x1 x2 x3 : Int) (bt : Nat) (w : World) (hbt : w.cell? ⟨bt, 0, none⟩ = some (.string s)) :
  Calls Try.prog 53 #[.agg #[.string u, Vi x1, Vi x2, Vi x3], Vp bt] w fun e w' => e = .returned (.bool (u.toList == s.toList)) ∧ Gr w w' := by
 have G := Gr.refl w
 have hC : RCells w [(Ad bt 0, .string s)] := (RCells.cons hbt (RCells.nil _))
 refine Y.calls 9 Try.func53 rfl rfl ?_
 intro ac F0
 have F : Fr ac 9 [(0, .agg #[.string u, Vi x1, Vi x2, Vi x3]), (1, Vp bt)] := F0.sub _
 clear F0
 refine Y.sl ?_
 refine Y.pv F (X.box rfl (F.e 0 rfl) X.bx) ?_;clear F ac;intro ac F
 obtain ⟨w3, hw_, g, hb, hbl, hC2⟩ := Y.bxd hC #[.string u, Vi x1, Vi x2, Vi x3] 74;rw [hw_];clear hw_
 replace G := G.trans g
 replace hC := hC2
 clear hC2
 clear g hb hbl
 refine Y.pv F (X.assign rfl (X.kc (.bool false) rfl)) ?_;clear F ac;intro ac F
 refine Y.nt F [(1, Vp bt), (2, Vp w.heap.size)] ?_;clear F ac;intro ac F
 refine Y.sg F [(3, .bool (u.toList == s.toList))] (by
  refine Y.pv F (X.field rfl (F.e 2 rfl) (X.fld Try.underlying74 rfl (Try.siz9 _) rfl rfl)) fun ac F=>?_
  refine Y.pv F (X.load rfl (F.e 4 rfl) (X.ld1 (Try.agg9 _) (hC.at 1 rfl))) fun ac F=>?_
  refine Y.pv F (X.field rfl (F.e 1 rfl) (X.fld Try.underlying74 rfl (Try.siz9 _) rfl rfl)) fun ac F=>?_
  refine Y.pv F (X.load rfl (F.e 6 rfl) (X.ld1 (Try.agg9 _) (hC.at 0 rfl))) fun ac F=>?_
  refine Y.pv F (X.binop rfl (F.e 5 rfl) (F.e 7 rfl) (Y.eqlS Try.underlying9 rfl)) fun ac F=>?_
  refine Y.pv F (X.assign rfl (F.e 8 rfl)) fun ac F=>?_
  exact Y.fin F) ?_;clear F ac;intro ac F
 refine Y.ret ?_
 exact Y.ret0 (v := .bool (u.toList == s.toList)) F (Y.r1 F) ⟨rfl, G⟩
set_option maxRecDepth 100000 in
set_option maxHeartbeats 400000 in
theorem idx93_any (p : Pb) (a : Option Addr) (n c bt : Nat) (s : ByteArray) (w : World) (hx : TbAt w 4 a n c (tvV p)) (hbt : w.cell? ⟨bt, 0, none⟩ = some (.string s)) :
  Calls Try.prog 93 #[.slice a n c, .func (.func 53) #[] #[Vp bt]] w fun e w' => e = .returned (Vi (firI (fun i => ((p.tn i).toList == s.toList)) n)) ∧ Gr w w' := by
 have G := Gr.refl w
 have hcp := hx.cap
 have hlt := hx.lt
 have hC : RCells w [(Ad bt 0, .string s)] := (RCells.cons hbt (RCells.nil _))
 refine Y.calls 19 Try.func93 rfl rfl ?_
 intro ac F0
 have F : Fr ac 19 [(0, .slice a n c), (1, .func (.func 53) #[] #[Vp bt])] := F0.sub _
 clear F0
 refine Y.sg F [(0, .slice a n c), (1, .func (.func 53) #[] #[Vp bt])] (Y.pv F (X.assign rfl (X.kc (Vi 0) rfl)) fun ac F=>Y.fin F) ?_;clear F ac;intro ac F
 refine Y.seq ?_
 refine Y.sg F [(0, .slice a n c), (1, .func (.func 53) #[] #[Vp bt]), (7, Vi n), (8, Vi 0)] (Y.pv F (X.move rfl (F.e 0 rfl)) fun ac F=>Y.pv F (X.len1 Try.underlying22 rfl (F.e 6 rfl)) fun ac F=>Y.pv F (X.move rfl (X.kc (Vi 0) rfl)) fun ac F=>Y.fin F) ?_;clear F ac;intro ac F
 refine Y.block ?_
 have hxB := hx
 have hCB := hC
 have GB := G
 refine Y.loop (fun me_ ac wr => ∃ (i : Nat), me_ = n - i ∧ Gr w wr ∧ i ≤ n ∧ allN (fun i => !(((p.tn i).toList == s.toList))) i = true ∧ Fr ac 19 [(0, .slice a n c), (1, .func (.func 53) #[] #[Vp bt]), (7, Vi n), (8, Vi i)]) _ ⟨0, rfl, Gr.refl _, Nat.zero_le _, rfl, F.sub _⟩ ?_
 clear F
 intro me_ ac w3 hI
 obtain ⟨i, rfl, gr, hi0, hok, F⟩ := hI
 replace G := GB.trans gr
 replace hC := hCB.gr gr
 replace hx := hxB.gr gr
 have GB_ := gr
 clear gr
 refine Y.sg F [(0, .slice a n c), (1, .func (.func 53) #[] #[Vp bt]), (7, Vi n), (8, Vi i), (9, .bool (decide ((i : Int) < n)))] (Y.pv F (X.binop rfl (F.e 8 rfl) (F.e 7 rfl) (X.lssI Try.underlying3 rfl)) fun ac F=>Y.fin F) ?_;clear F ac;intro ac F
 refine Y.seq ?_
 cases h4 : decide ((i : Int) < n) with
 | false =>
  try rw [h4] at F
  have h4p : ¬ ((i : Int) < n) := of_decide_eq_false h4
  obtain rfl : i = n := by omega
  refine Y.condF (F.e 9 rfl) ?_
  refine Y.exit ?_
  refine X.thenX (X.thenX (X.blockX (X.thenN ?_)))
  refine Y.sg F [(4, Vi (-1))] (Y.pv F (X.assign rfl (X.kc (Vi (-1)) rfl)) fun ac F=>Y.fin F) ?_;clear F ac;intro ac F
  refine Y.ret ?_
  exact Y.ret0 (v := Vi (-1)) F (Y.r1 F) ⟨ret_int ((firI_none hok).symm), G⟩
 | true =>
  try rw [h4] at F
  have h4p : ((i : Int) < n) := of_decide_eq_true h4
  have hi : i < n := by omega
  refine Y.condT (F.e 9 rfl) ?_
  refine Y.skip ?_
  refine X.thenN ?_
  refine Y.seq ?_
  refine Y.block ?_
  refine Y.sg F [(0, .slice a n c), (1, .func (.func 53) #[] #[Vp bt]), (5, Vi i), (7, Vi n), (8, Vi i)] (Y.pv F (X.move rfl (F.e 8 rfl)) fun ac F=>Y.pv F (X.assign rfl (F.e 10 rfl)) fun ac F=>Y.fin F) ?_;clear F ac;intro ac F
  refine Y.sl ?_
  refine Y.pv3 F (X.move rfl (F.e 1 rfl)) (fun _ F=>X.move rfl (F.e 0 rfl)) (fun _ F=>X.move rfl (F.e 5 rfl)) ?_;clear F ac;intro ac F
  obtain ⟨pd5, pe5, -, pc5⟩ := hx.at (j := i) (by omega)
  subst pe5
  replace hC := hC.append (show RCells w3 (Y.cs (pd5.add (i * 4)) [.string (p.tn i), Vi (p.tv i 1), Vi (p.tv i 2), Vi (p.tv i 3)]) from (RCells.cons (pc5 0 (by decide)) (RCells.cons (pc5 1 (by decide)) (RCells.cons (pc5 2 (by decide)) (RCells.cons (pc5 3 (by decide)) (RCells.nil _))))))
  clear pc5
  refine Y.pv2 F (X.index rfl (F.e 12 rfl) (F.e 13 rfl) (X.idx (k := i) Try.underlying22 (Try.siz74 _) (by omega) (by omega) rfl)) (fun _ F=>X.load rfl (F.e 14 rfl) (X.ldN (Try.agg74 _) (Try.siz74 _) (Y.atz (pd5.add (i * 4)) (Y.AtFrom.cons (hC.at 1 rfl) (Y.AtFrom.cons (hC.at 2 rfl) (Y.AtFrom.cons (hC.at 3 rfl) (Y.AtFrom.cons (hC.at 4 rfl) (Y.AtFrom.nil _ _ _)))))))) ?_;clear F ac;intro ac F
  refine Y.pcall F (X.w0 rfl) rfl (X.enter (F := 53) rfl (F.e 11 rfl) (X.a1 (F.e 15 rfl)) (enters_of Try.func53 (by kernel_rfl) rfl _)) (same53_any (p.tn i) s (p.tv i 1) (p.tv i 2) (p.tv i 3) bt w3 (hC.at 0 rfl)) ?_
  clear F ac
  rintro e w6 ⟨rfl, g⟩
  refine ⟨_, rfl, ?_⟩
  intro ac F
  replace G := G.trans g
  replace hC := hC.gr g
  replace GB_ := GB_.trans g
  replace hx := hx.gr g
  clear g
  refine Y.nt F [(0, .slice (some pd5) n c), (1, .func (.func 53) #[] #[Vp bt]), (5, Vi i), (7, Vi n), (8, Vi i), (16, .bool ((p.tn i).toList == s.toList))] ?_;clear F ac;intro ac F
  cases h7 : ((p.tn i).toList == s.toList) with
  | false =>
   try rw [h7] at F
   have h7p : ¬ (p.tn i).toList = s.toList := by simpa using h7
   refine Y.condF (F.e 16 rfl) ?_
   refine Y.skip ?_
   refine X.blockN (X.thenN ?_)
   refine Y.lg F [(0, .slice (some pd5) n c), (1, .func (.func 53) #[] #[Vp bt]), (7, Vi n), (8, Vi ((i : Int) + 1))] (by
    refine Y.pv F (X.binop rfl (F.e 8 rfl) (X.kc (Vi 1) rfl) (X.addI Try.underlying3 rfl (by omega) (by omega))) fun ac F=>?_
    refine Y.pv F (X.move rfl (F.e 18 rfl)) fun ac F=>?_
    exact Y.fin F) ?_;clear F ac;intro ac F
   refine ⟨_, ?_, i + 1, rfl, GB_, by omega, allN_succ hok (by simp [h7p]), F.sub _⟩
   omega
  | true =>
   try rw [h7] at F
   have h7p : (p.tn i).toList = s.toList := by simpa using h7
   refine Y.condT (F.e 16 rfl) ?_
   refine Y.sg F [(4, Vi i)] (Y.pv F (X.move rfl (F.e 5 rfl)) fun ac F=>Y.pv F (X.assign rfl (F.e 17 rfl)) fun ac F=>Y.fin F) ?_;clear F ac;intro ac F
   refine Y.ret ?_
   refine X.blockR (X.thenR (X.thenR (X.blockR (X.thenR ?_))))
   exact Y.ret0 (v := Vi i) F (Y.r1 F) ⟨ret_int ((firI_some (f := fun i => ((p.tn i).toList == s.toList)) hi hok (by simp [h7p])).symm), G⟩
set_option maxRecDepth 100000 in
set_option maxHeartbeats 400000 in
theorem con52_any (p : Pb) (a : Option Addr) (n c bt : Nat) (s : ByteArray) (w : World) (hx : TbAt w 4 a n c (tvV p)) (hbt : w.cell? ⟨bt, 0, none⟩ = some (.string s)) :
  Calls Try.prog 52 #[.slice a n c, .func (.func 53) #[] #[Vp bt]] w fun e w' => e = .returned (.bool (!allN (fun i => !((p.tn i).toList == s.toList)) n)) ∧ Gr w w' := by
 have G := Gr.refl w
 have hcp := hx.cap
 have hlt := hx.lt
 have hC : RCells w [(Ad bt 0, .string s)] := (RCells.cons hbt (RCells.nil _))
 refine Y.calls 9 Try.func52 rfl rfl ?_
 intro ac F0
 have F : Fr ac 9 [(0, .slice a n c), (1, .func (.func 53) #[] #[Vp bt])] := F0.sub _
 clear F0
 refine Y.sg F [(0, .slice a n c), (1, .func (.func 53) #[] #[Vp bt])] (Y.pv F (X.assign rfl (X.kc (.bool false) rfl)) fun ac F=>Y.fin F) ?_;clear F ac;intro ac F
 refine Y.sl ?_
 refine Y.pv2 F (X.move rfl (F.e 0 rfl)) (fun _ F=>X.move rfl (F.e 1 rfl)) ?_;clear F ac;intro ac F
 refine Y.pc F 93 (X.a2 (F.e 5 rfl) (F.e 6 rfl)) Try.func93 (idx93_any p a n c bt s w hx (hC.at 0 rfl)) ?_
 clear F ac
 rintro e w3 ⟨rfl, g⟩
 refine ⟨_, rfl, ?_⟩
 intro ac F
 replace G := G.trans g
 replace hC := hC.gr g
 replace hx := hx.gr g
 clear g
 refine Y.pv2 F (X.binop rfl (F.e 7 rfl) (X.kc (Vi 0) rfl) (X.geqI Try.underlying3 rfl)) (fun _ F=>X.assign rfl (F.e 8 rfl)) ?_;clear F ac;intro ac F
 refine Y.nt F [(4, .bool (decide ((0 : Int) ≤ (firI (fun i => ((p.tn i).toList == s.toList)) n))))] ?_;clear F ac;intro ac F
 refine Y.ret ?_
 exact Y.ret0 (v := .bool (decide ((0 : Int) ≤ (firI (fun i => ((p.tn i).toList == s.toList)) n)))) F (Y.r1 F) ⟨by rw [firI_any (f := fun i => ((p.tn i).toList == s.toList))], G⟩
set_option maxRecDepth 100000 in
set_option maxHeartbeats 400000 in
theorem same58_any (u s : ByteArray) (x1 x2 x3 x4 x5 : Int) (bt : Nat) (w : World) (hbt : w.cell? ⟨bt, 0, none⟩ = some (.string s)) :
  Calls Try.prog 58 #[.agg #[.string u, Vi x1, Vi x2, Vi x3, Vi x4, Vi x5], Vp bt] w fun e w' => e = .returned (.bool (u.toList == s.toList)) ∧ Gr w w' := by
 have G := Gr.refl w
 have hC : RCells w [(Ad bt 0, .string s)] := (RCells.cons hbt (RCells.nil _))
 refine Y.calls 9 Try.func58 rfl rfl ?_
 intro ac F0
 have F : Fr ac 9 [(0, .agg #[.string u, Vi x1, Vi x2, Vi x3, Vi x4, Vi x5]), (1, Vp bt)] := F0.sub _
 clear F0
 refine Y.sl ?_
 refine Y.pv F (X.box rfl (F.e 0 rfl) X.bx) ?_;clear F ac;intro ac F
 obtain ⟨w3, hw_, g, hb, hbl, hC2⟩ := Y.bxd hC #[.string u, Vi x1, Vi x2, Vi x3, Vi x4, Vi x5] 53;rw [hw_];clear hw_
 replace G := G.trans g
 replace hC := hC2
 clear hC2
 clear g hb hbl
 refine Y.pv F (X.assign rfl (X.kc (.bool false) rfl)) ?_;clear F ac;intro ac F
 refine Y.nt F [(1, Vp bt), (2, Vp w.heap.size)] ?_;clear F ac;intro ac F
 refine Y.sg F [(3, .bool (u.toList == s.toList))] (by
  refine Y.pv F (X.field rfl (F.e 2 rfl) (X.fld Try.underlying53 rfl (Try.siz9 _) rfl rfl)) fun ac F=>?_
  refine Y.pv F (X.load rfl (F.e 4 rfl) (X.ld1 (Try.agg9 _) (hC.at 1 rfl))) fun ac F=>?_
  refine Y.pv F (X.field rfl (F.e 1 rfl) (X.fld Try.underlying53 rfl (Try.siz9 _) rfl rfl)) fun ac F=>?_
  refine Y.pv F (X.load rfl (F.e 6 rfl) (X.ld1 (Try.agg9 _) (hC.at 0 rfl))) fun ac F=>?_
  refine Y.pv F (X.binop rfl (F.e 5 rfl) (F.e 7 rfl) (Y.eqlS Try.underlying9 rfl)) fun ac F=>?_
  refine Y.pv F (X.assign rfl (F.e 8 rfl)) fun ac F=>?_
  exact Y.fin F) ?_;clear F ac;intro ac F
 refine Y.ret ?_
 exact Y.ret0 (v := .bool (u.toList == s.toList)) F (Y.r1 F) ⟨rfl, G⟩
set_option maxRecDepth 100000 in
set_option maxHeartbeats 400000 in
theorem idx96_any (p : Pb) (a : Option Addr) (n c bt : Nat) (s : ByteArray) (w : World) (hx : TbAt w 6 a n c (hvV p)) (hbt : w.cell? ⟨bt, 0, none⟩ = some (.string s)) :
  Calls Try.prog 96 #[.slice a n c, .func (.func 58) #[] #[Vp bt]] w fun e w' => e = .returned (Vi (firI (fun i => ((p.hn i).toList == s.toList)) n)) ∧ Gr w w' := by
 have G := Gr.refl w
 have hcp := hx.cap
 have hlt := hx.lt
 have hC : RCells w [(Ad bt 0, .string s)] := (RCells.cons hbt (RCells.nil _))
 refine Y.calls 19 Try.func96 rfl rfl ?_
 intro ac F0
 have F : Fr ac 19 [(0, .slice a n c), (1, .func (.func 58) #[] #[Vp bt])] := F0.sub _
 clear F0
 refine Y.sg F [(0, .slice a n c), (1, .func (.func 58) #[] #[Vp bt])] (Y.pv F (X.assign rfl (X.kc (Vi 0) rfl)) fun ac F=>Y.fin F) ?_;clear F ac;intro ac F
 refine Y.seq ?_
 refine Y.sg F [(0, .slice a n c), (1, .func (.func 58) #[] #[Vp bt]), (7, Vi n), (8, Vi 0)] (Y.pv F (X.move rfl (F.e 0 rfl)) fun ac F=>Y.pv F (X.len1 Try.underlying23 rfl (F.e 6 rfl)) fun ac F=>Y.pv F (X.move rfl (X.kc (Vi 0) rfl)) fun ac F=>Y.fin F) ?_;clear F ac;intro ac F
 refine Y.block ?_
 have hxB := hx
 have hCB := hC
 have GB := G
 refine Y.loop (fun me_ ac wr => ∃ (i : Nat), me_ = n - i ∧ Gr w wr ∧ i ≤ n ∧ allN (fun i => !(((p.hn i).toList == s.toList))) i = true ∧ Fr ac 19 [(0, .slice a n c), (1, .func (.func 58) #[] #[Vp bt]), (7, Vi n), (8, Vi i)]) _ ⟨0, rfl, Gr.refl _, Nat.zero_le _, rfl, F.sub _⟩ ?_
 clear F
 intro me_ ac w3 hI
 obtain ⟨i, rfl, gr, hi0, hok, F⟩ := hI
 replace G := GB.trans gr
 replace hC := hCB.gr gr
 replace hx := hxB.gr gr
 have GB_ := gr
 clear gr
 refine Y.sg F [(0, .slice a n c), (1, .func (.func 58) #[] #[Vp bt]), (7, Vi n), (8, Vi i), (9, .bool (decide ((i : Int) < n)))] (Y.pv F (X.binop rfl (F.e 8 rfl) (F.e 7 rfl) (X.lssI Try.underlying3 rfl)) fun ac F=>Y.fin F) ?_;clear F ac;intro ac F
 refine Y.seq ?_
 cases h4 : decide ((i : Int) < n) with
 | false =>
  try rw [h4] at F
  have h4p : ¬ ((i : Int) < n) := of_decide_eq_false h4
  obtain rfl : i = n := by omega
  refine Y.condF (F.e 9 rfl) ?_
  refine Y.exit ?_
  refine X.thenX (X.thenX (X.blockX (X.thenN ?_)))
  refine Y.sg F [(4, Vi (-1))] (Y.pv F (X.assign rfl (X.kc (Vi (-1)) rfl)) fun ac F=>Y.fin F) ?_;clear F ac;intro ac F
  refine Y.ret ?_
  exact Y.ret0 (v := Vi (-1)) F (Y.r1 F) ⟨ret_int ((firI_none hok).symm), G⟩
 | true =>
  try rw [h4] at F
  have h4p : ((i : Int) < n) := of_decide_eq_true h4
  have hi : i < n := by omega
  refine Y.condT (F.e 9 rfl) ?_
  refine Y.skip ?_
  refine X.thenN ?_
  refine Y.seq ?_
  refine Y.block ?_
  refine Y.sg F [(0, .slice a n c), (1, .func (.func 58) #[] #[Vp bt]), (5, Vi i), (7, Vi n), (8, Vi i)] (Y.pv F (X.move rfl (F.e 8 rfl)) fun ac F=>Y.pv F (X.assign rfl (F.e 10 rfl)) fun ac F=>Y.fin F) ?_;clear F ac;intro ac F
  refine Y.sl ?_
  refine Y.pv3 F (X.move rfl (F.e 1 rfl)) (fun _ F=>X.move rfl (F.e 0 rfl)) (fun _ F=>X.move rfl (F.e 5 rfl)) ?_;clear F ac;intro ac F
  obtain ⟨pd5, pe5, -, pc5⟩ := hx.at (j := i) (by omega)
  subst pe5
  replace hC := hC.append (show RCells w3 (Y.cs (pd5.add (i * 6)) [.string (p.hn i), Vi (p.hv i 1), Vi (p.hv i 2), Vi (p.hv i 3), Vi (p.hv i 4), Vi (p.hv i 5)]) from (RCells.cons (pc5 0 (by decide)) (RCells.cons (pc5 1 (by decide)) (RCells.cons (pc5 2 (by decide)) (RCells.cons (pc5 3 (by decide)) (RCells.cons (pc5 4 (by decide)) (RCells.cons (pc5 5 (by decide)) (RCells.nil _))))))))
  clear pc5
  refine Y.pv2 F (X.index rfl (F.e 12 rfl) (F.e 13 rfl) (X.idx (k := i) Try.underlying23 (Try.siz53 _) (by omega) (by omega) rfl)) (fun _ F=>X.load rfl (F.e 14 rfl) (X.ldN (Try.agg53 _) (Try.siz53 _) (Y.atz (pd5.add (i * 6)) (Y.AtFrom.cons (hC.at 1 rfl) (Y.AtFrom.cons (hC.at 2 rfl) (Y.AtFrom.cons (hC.at 3 rfl) (Y.AtFrom.cons (hC.at 4 rfl) (Y.AtFrom.cons (hC.at 5 rfl) (Y.AtFrom.cons (hC.at 6 rfl) (Y.AtFrom.nil _ _ _)))))))))) ?_;clear F ac;intro ac F
  refine Y.pcall F (X.w0 rfl) rfl (X.enter (F := 58) rfl (F.e 11 rfl) (X.a1 (F.e 15 rfl)) (enters_of Try.func58 (by kernel_rfl) rfl _)) (same58_any (p.hn i) s (p.hv i 1) (p.hv i 2) (p.hv i 3) (p.hv i 4) (p.hv i 5) bt w3 (hC.at 0 rfl)) ?_
  clear F ac
  rintro e w6 ⟨rfl, g⟩
  refine ⟨_, rfl, ?_⟩
  intro ac F
  replace G := G.trans g
  replace hC := hC.gr g
  replace GB_ := GB_.trans g
  replace hx := hx.gr g
  clear g
  refine Y.nt F [(0, .slice (some pd5) n c), (1, .func (.func 58) #[] #[Vp bt]), (5, Vi i), (7, Vi n), (8, Vi i), (16, .bool ((p.hn i).toList == s.toList))] ?_;clear F ac;intro ac F
  cases h7 : ((p.hn i).toList == s.toList) with
  | false =>
   try rw [h7] at F
   have h7p : ¬ (p.hn i).toList = s.toList := by simpa using h7
   refine Y.condF (F.e 16 rfl) ?_
   refine Y.skip ?_
   refine X.blockN (X.thenN ?_)
   refine Y.lg F [(0, .slice (some pd5) n c), (1, .func (.func 58) #[] #[Vp bt]), (7, Vi n), (8, Vi ((i : Int) + 1))] (by
    refine Y.pv F (X.binop rfl (F.e 8 rfl) (X.kc (Vi 1) rfl) (X.addI Try.underlying3 rfl (by omega) (by omega))) fun ac F=>?_
    refine Y.pv F (X.move rfl (F.e 18 rfl)) fun ac F=>?_
    exact Y.fin F) ?_;clear F ac;intro ac F
   refine ⟨_, ?_, i + 1, rfl, GB_, by omega, allN_succ hok (by simp [h7p]), F.sub _⟩
   omega
  | true =>
   try rw [h7] at F
   have h7p : (p.hn i).toList = s.toList := by simpa using h7
   refine Y.condT (F.e 16 rfl) ?_
   refine Y.sg F [(4, Vi i)] (Y.pv F (X.move rfl (F.e 5 rfl)) fun ac F=>Y.pv F (X.assign rfl (F.e 17 rfl)) fun ac F=>Y.fin F) ?_;clear F ac;intro ac F
   refine Y.ret ?_
   refine X.blockR (X.thenR (X.thenR (X.blockR (X.thenR ?_))))
   exact Y.ret0 (v := Vi i) F (Y.r1 F) ⟨ret_int ((firI_some (f := fun i => ((p.hn i).toList == s.toList)) hi hok (by simp [h7p])).symm), G⟩
set_option maxRecDepth 100000 in
set_option maxHeartbeats 400000 in
theorem con57_any (p : Pb) (a : Option Addr) (n c bt : Nat) (s : ByteArray) (w : World) (hx : TbAt w 6 a n c (hvV p)) (hbt : w.cell? ⟨bt, 0, none⟩ = some (.string s)) :
  Calls Try.prog 57 #[.slice a n c, .func (.func 58) #[] #[Vp bt]] w fun e w' => e = .returned (.bool (!allN (fun i => !((p.hn i).toList == s.toList)) n)) ∧ Gr w w' := by
 have G := Gr.refl w
 have hcp := hx.cap
 have hlt := hx.lt
 have hC : RCells w [(Ad bt 0, .string s)] := (RCells.cons hbt (RCells.nil _))
 refine Y.calls 9 Try.func57 rfl rfl ?_
 intro ac F0
 have F : Fr ac 9 [(0, .slice a n c), (1, .func (.func 58) #[] #[Vp bt])] := F0.sub _
 clear F0
 refine Y.sg F [(0, .slice a n c), (1, .func (.func 58) #[] #[Vp bt])] (Y.pv F (X.assign rfl (X.kc (.bool false) rfl)) fun ac F=>Y.fin F) ?_;clear F ac;intro ac F
 refine Y.sl ?_
 refine Y.pv2 F (X.move rfl (F.e 0 rfl)) (fun _ F=>X.move rfl (F.e 1 rfl)) ?_;clear F ac;intro ac F
 refine Y.pc F 96 (X.a2 (F.e 5 rfl) (F.e 6 rfl)) Try.func96 (idx96_any p a n c bt s w hx (hC.at 0 rfl)) ?_
 clear F ac
 rintro e w3 ⟨rfl, g⟩
 refine ⟨_, rfl, ?_⟩
 intro ac F
 replace G := G.trans g
 replace hC := hC.gr g
 replace hx := hx.gr g
 clear g
 refine Y.pv2 F (X.binop rfl (F.e 7 rfl) (X.kc (Vi 0) rfl) (X.geqI Try.underlying3 rfl)) (fun _ F=>X.assign rfl (F.e 8 rfl)) ?_;clear F ac;intro ac F
 refine Y.nt F [(4, .bool (decide ((0 : Int) ≤ (firI (fun i => ((p.hn i).toList == s.toList)) n))))] ?_;clear F ac;intro ac F
 refine Y.ret ?_
 exact Y.ret0 (v := .bool (decide ((0 : Int) ≤ (firI (fun i => ((p.hn i).toList == s.toList)) n)))) F (Y.r1 F) ⟨by rw [firI_any (f := fun i => ((p.hn i).toList == s.toList))], G⟩
end
end Go.Proofs.Ytodedneanlekdaa
