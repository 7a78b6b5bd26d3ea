/- Several texts of this claim in one file. (1) All allowed plans, as rows in memory; regions that call twice and append. Nothing of the program is proved here. (2) The first allowed plan, by the reference. Nothing of the program is proved here. (3) Contracts: hosted and begun. (4) Contracts: Allowed, Cost, Hopeless, Bound. (5) Contracts: the reference's Allowed, Cost, Hopeless, Bound. (6) Contracts: with, all (reference). (7) Contracts: the reference's first, Best. (8) Contract: Best. (9) Contract: the look at the example. -/
import Derived.Test.YtodedneanlekdaaBd11
import Derived.Test.YtodedneanlekdaaBd12
import Derived.Test.YtodedneanlekdaaBd8
import Derived.Test.YtodedneanlekdaaBd4
namespace Go.Proofs.Ytodedneanlekdaa
set_option linter.unusedSimpArgs false
set_option linter.unusedVariables false
section
set_option linter.unusedVariables false
open Go.RowKit
/-- rows as values -/
def rowsV (E : List BegE) : List Value := E.map fun x => .slice x.a x.xs.length x.c
theorem rowsV_len (E : List BegE) : (rowsV E).length = E.length := by simp [rowsV]
theorem rowsV_all (E : List BegE) : ((rowsV E).all fun v => v.oneCell') = true := by
  rw [List.all_eq_true]; intro v hv
  simp only [rowsV, List.mem_map] at hv
  obtain ⟨x, _, rfl⟩ := hv
  rfl
/-- rows of numbers, in a slice of the call's own -/
structure RwAt (W : World) (B : Nat) (v : Value) (E : List BegE) : Prop where
  o : OwnR W B 34 1 v E.length (rowsV E)
  i : ∀ x ∈ E, Ints W x.a x.xs.length x.xs
  n : ∀ x ∈ E, ∀ ad, x.a = some ad → v.ownBlock ≠ some ad.block ∧ ad.block < W.heap.size
theorem RwAt.gr {W W' : World} {B : Nat} {v : Value} {E : List BegE} (h : RwAt W B v E) (g : Gr W W') : RwAt W' B v E :=
  ⟨h.o.gr g, fun x hx => (h.i x hx).gr g, fun x hx ad e => ⟨(h.n x hx ad e).1, Nat.lt_of_lt_of_le (h.n x hx ad e).2 g.size⟩⟩
theorem RwAt.nil (W : World) (B : Nat) : RwAt W B (.slice none 0 0) [] := ⟨OwnR.nil _ _ _ _, fun x hx => (by simp at hx), fun x hx => (by simp at hx)⟩
theorem RwAt.lower {W : World} {B B' : Nat} {v : Value} {E : List BegE} (h : RwAt W B v E) (hB : B' ≤ B) : RwAt W B' v E := ⟨h.o.lower hB, h.i, h.n⟩
theorem RwAt.form {W : World} {B : Nat} {v : Value} {E : List BegE} (h : RwAt W B v E) : ∃ a c, v = .slice a E.length c := h.o.form
/-- the rows come in behind the others -/
theorem RwAt.push {W W' : World} {B B2 : Nat} {v v2 v' : Value} {E E2 : List BegE} (h : RwAt W B v E) (h2 : RwAt W B2 v2 E2) (hO : OwnR W' B 34 1 v' (E.length + E2.length) (rowsV E ++ rowsV E2)) (hon : Only (fun b => v.ownBlock = some b) W W')
    (hat : v'.ownBlock = v.ownBlock ∨ v'.ownBlock = some W.heap.size) (hne : ∀ x ∈ E2, ∀ ad, x.a = some ad → v.ownBlock ≠ some ad.block) : RwAt W' B v' (E ++ E2) := by
  have hn : ∀ x ∈ E ++ E2, Ints W x.a x.xs.length x.xs ∧ ∀ ad, x.a = some ad → v.ownBlock ≠ some ad.block ∧ ad.block < W.heap.size := fun x hx => by
    rcases List.mem_append.1 hx with hx | hx
    · exact ⟨h.i x hx, h.n x hx⟩
    · exact ⟨h2.i x hx, fun ad e => ⟨hne x hx ad e, (h2.n x hx ad e).2⟩⟩
  refine ⟨by rw [List.length_append]; simpa [rowsV] using hO, fun x hx => (hn x hx).1.onlyAt hon (fun ad e => (hn x hx).2 ad e |>.1), fun x hx ad e => ?_⟩
  obtain ⟨n1, n2⟩ := (hn x hx).2 ad e
  refine ⟨fun e2 => ?_, Nat.lt_of_lt_of_le n2 hon.size⟩
  rcases hat with h3 | h3
  · rw [h3] at e2; exact n1 e2
  · rw [h3] at e2; injection e2 with e2; omega
/-- a row as an element -/
theorem RwAt.cell {W : World} {B g c i : Nat} {E : List BegE} {x : BegE} (h : RwAt W B (.slice (some ⟨g, 0, none⟩) E.length c) E) (hx : E[i]? = some x) : W.cell? ⟨g, i, none⟩ = some (.slice x.a x.xs.length x.c) := by
  have hi : i < E.length := (List.getElem?_eq_some_iff.1 hx).1
  have := World.ownsRow.cells h.o (g := g) rfl i (.slice x.a x.xs.length x.c) (by simp [rowsV, hx])
  rwa [addr_add0] at this
theorem RwAt.ex {W : World} {B c : Nat} {a : Option Addr} {E : List BegE} (h : RwAt W B (.slice a E.length c) E) (h0 : 0 < E.length) : ∃ g, a = some ⟨g, 0, none⟩ ∧ B ≤ g ∧ g < W.heap.size := by
  rcases h.o.shape with ⟨_, h1⟩ | ⟨g, c', e, h1, h2⟩
  · omega
  · injection e with e; exact ⟨g, e, h1, h2⟩
theorem RwAt.src {W : World} {B c : Nat} {a : Option Addr} {E : List BegE} (h : RwAt W B (.slice a E.length c) E) : ∀ ad, a = some ad → ∀ j u, (rowsV E)[j]? = some u → W.cell? (ad.add j) = some u := by
  intro ad e j u hu
  have hj : j < E.length := by have := (List.getElem?_eq_some_iff.1 hu).1; rwa [rowsV_len] at this
  obtain ⟨g, e2, _, _⟩ := h.ex (by omega)
  rw [e] at e2; injection e2 with e2
  subst e2
  subst e
  exact World.ownsRow.cells h.o (g := g) rfl j u hu
theorem RwAt.none0 {W : World} {B c : Nat} {a : Option Addr} {E : List BegE} (h : RwAt W B (.slice a E.length c) E) : a = none → E.length = 0 := fun e => by
  refine Classical.byContradiction fun h0 => ?_
  obtain ⟨g, e2, _⟩ := h.ex (by omega)
  rw [e] at e2; cases e2
/-- append to a slice of the call's own, of any slice -/
theorem wp_pushG {P : Program} {o : Oper} {a : Act} {W : World} {K : Act → World → Prop} {Q : Exit → Act → World → Prop} {s x : Operand} {ts e k bytes B n m c c1 : Nat} {z : Value} {a1 sa : Option Addr} {xs news : List Value}
    (hu : P.underlying ts = some (.slice e)) (hinfo : (P.info? e).map (fun i => (i.zero, i.size, i.bytes)) = some (some z, k, bytes)) (hzs : z.cells.size = k) (h0 : 0 < k)
    (ho : o.op = .call { callee := .builtin .append, args := #[s, x], argTypes := #[ts, ts] }) (hs : a.eval s = .slice a1 n c1) (hx : a.eval x = .slice sa m c) (hO : OwnR W B e k (.slice a1 n c1) n xs) (hsn : sa = none → m = 0)
    (hl : news.length = m * k) (hnews : ∀ ad, sa = some ad → ∀ j u, news[j]? = some u → W.cell? (ad.add j) = some u) (h1 : (news.all fun u => u.oneCell') = true) (hmax : n + m ≤ 1000000) (hbt : bytes ≤ 1000) (hB : B ≤ W.heap.size)
    (h : ∀ v' w', OwnR w' B e k v' (n + m) (xs ++ news) → Only (fun b => (Value.slice a1 n c1).ownBlock = some b) W w' → (v'.ownBlock = (Value.slice a1 n c1).ownBlock ∨ v'.ownBlock = some W.heap.size) → K (a.put o.dst v') w') : o.wp P a W K Q := by
  cases sa with
  | some ad => exact wp_pushV hu hinfo hzs h0 ho hs hx hO hl (hnews ad rfl) h1 hmax hbt hB h
  | none =>
    have hm := hsn rfl
    subst hm
    have hn0 : news = [] := List.eq_nil_of_length_eq_zero (by omega)
    subst hn0
    obtain ⟨i0, hi, hz0, hz1, hz2⟩ := info_parts hinfo
    have hle : n ≤ c1 := by
      rcases hO.2 with ⟨h2, _⟩ | ⟨b, cap, cur, h1, h2, h3, h4, _⟩
      · injection h2 with _ h2; omega
      · injection h1 with _ _ h1; omega
    have hs2 : Src P i0.size ts (.slice none 0 c) 0 [] W := by
      refine ⟨.inl ⟨e, hu⟩, fun w' => ?_, ?_, ?_, by simp, fun u hu => by simp at hu⟩
      · simp [Builtin.lenOf]
      · simp [Builtin.firstCells, loadCells, loadCellsFrom]
      · simp [Builtin.firstCells, loadCells, loadCellsFrom]
    have hr := run_append_nothing W ts ts o.type e i0 hu hi a1 n c1 hle _ hs2
    have hrun : (execOp a.eval o).run P W = .ok (.value (.slice a1 n c1)) W := by
      unfold execOp
      simp only [ho, resolve, invoke, builtin, Sem.run_bind, Sem.run_pure, Result.andThen_ok, List.map_toArray, List.map_cons, List.map_nil, hs, hx, hr]
    unfold Oper.wp
    rw [hrun]
    exact h _ _ (by rw [List.append_nil]; exact hO) (Only.refl _ _) (.inl rfl)
/-- a region with two calls (a, b) and an append (c) that may turn older memory, whose value is moved on (d) -/
structure RA4 (w : World) (a b c d : Nat) (Ta Tb Tc : Value → World → Prop) (done : Nat → Bool) (u : Nat → Value) (W : World) : Prop where
  g : done c = false → Gr w W
  ga : done a = true → done c = false → Ta (u a) W
  gb : done b = true → done c = false → Tb (u b) W
  gc : done c = true → Tc (u c) W
  gd : done d = true → u d = u c
def ne4 (a b c d : Nat) : Bool := !(a == b || a == c || a == d || b == c || b == d || c == d)
section
variable {w W W' : World} {a b c d i : Nat} {Ta Tb Tc : Value → World → Prop} {done : Nat → Bool} {u : Nat → Value} {v : Value}
theorem ne4_all (h : ne4 a b c d = true) : a ≠ b ∧ a ≠ c ∧ a ≠ d ∧ b ≠ c ∧ b ≠ d ∧ c ≠ d := by
  simp only [ne4, Bool.not_eq_true', Bool.or_eq_false_iff, beq_eq_false_iff_ne] at h
  obtain ⟨⟨⟨⟨⟨h1, h2⟩, h3⟩, h4⟩, h5⟩, h6⟩ := h
  exact ⟨h1, h2, h3, h4, h5, h6⟩
theorem RA4.start {u : Nat → Value} (g : Gr w W) : RA4 w a b c d Ta Tb Tc (fun _ => false) u W := ⟨fun _ => g, fun h => by simp at h, fun h => by simp at h, fun h => by simp at h, fun h => by simp at h⟩
theorem RA4.quiet (h : RA4 w a b c d Ta Tb Tc done u W) (ha : UpV Ta) (hb : UpV Tb) (hc : done c = false) (hd : done d = false) (g : Gr W W') (hi : (i == a || i == b || i == c || i == d) = false) : RA4 w a b c d Ta Tb Tc (upd done i) (fun j => if j = i then v else u j) W' := by
  simp only [Bool.or_eq_false_iff, beq_eq_false_iff_ne] at hi
  obtain ⟨⟨⟨h1, h2⟩, h3⟩, h4⟩ := hi
  have e1 := upd_ne (done := done) (Ne.symm h1)
  have e2 := upd_ne (done := done) (Ne.symm h2)
  have e3 := upd_ne (done := done) (Ne.symm h3)
  have e4 := upd_ne (done := done) (Ne.symm h4)
  refine ⟨fun k => (h.g hc).trans g, fun k0 k1 => ?_, fun k0 k1 => ?_, fun k0 => ?_, fun k0 => ?_⟩
  · have := ha _ _ _ (h.ga (e1 ▸ k0) hc) g; simpa [Ne.symm h1] using this
  · have := hb _ _ _ (h.gb (e2 ▸ k0) hc) g; simpa [Ne.symm h2] using this
  · rw [e3, hc] at k0; cases k0
  · rw [e4, hd] at k0; cases k0
theorem RA4.sa (h : RA4 w a b c d Ta Tb Tc done u W) (hn : ne4 a b c d = true) (hb : UpV Tb) (hc : done c = false) (hd : done d = false) (g : Gr W W') (ht : Ta v W') : RA4 w a b c d Ta Tb Tc (upd done a) (fun j => if j = a then v else u j) W' := by
  obtain ⟨n1, n2, n3, _⟩ := ne4_all hn
  have e1 := upd_ne (done := done) (Ne.symm n1)
  have e2 := upd_ne (done := done) (Ne.symm n2)
  have e3 := upd_ne (done := done) (Ne.symm n3)
  refine ⟨fun _ => (h.g hc).trans g, fun _ _ => by simpa using ht, fun k0 k1 => ?_, fun k => ?_, fun k => ?_⟩
  · have := hb _ _ _ (h.gb (e1 ▸ k0) hc) g; simpa [Ne.symm n1] using this
  · rw [e2, hc] at k; cases k
  · rw [e3, hd] at k; cases k
theorem RA4.sb (h : RA4 w a b c d Ta Tb Tc done u W) (hn : ne4 a b c d = true) (ha : UpV Ta) (hc : done c = false) (hd : done d = false) (g : Gr W W') (ht : Tb v W') : RA4 w a b c d Ta Tb Tc (upd done b) (fun j => if j = b then v else u j) W' := by
  obtain ⟨n1, _, _, n4, n5, _⟩ := ne4_all hn
  have e1 := upd_ne (done := done) n1
  have e2 := upd_ne (done := done) (Ne.symm n4)
  have e3 := upd_ne (done := done) (Ne.symm n5)
  refine ⟨fun _ => (h.g hc).trans g, fun k0 k1 => ?_, fun _ _ => by simpa using ht, fun k => ?_, fun k => ?_⟩
  · have := ha _ _ _ (h.ga (e1 ▸ k0) hc) g; simpa [n1] using this
  · rw [e2, hc] at k; cases k
  · rw [e3, hd] at k; cases k
theorem RA4.sc (hn : ne4 a b c d = true) (hd : done d = false) (ht : Tc v W') : RA4 w a b c d Ta Tb Tc (upd done c) (fun j => if j = c then v else u j) W' := by
  obtain ⟨_, _, _, _, _, n6⟩ := ne4_all hn
  have e3 := upd_ne (done := done) (Ne.symm n6)
  refine ⟨fun k => ?_, fun _ k => ?_, fun _ k => ?_, fun _ => by simpa using ht, fun k => ?_⟩
  · rw [upd_self] at k; cases k
  · rw [upd_self] at k; cases k
  · rw [upd_self] at k; cases k
  · rw [e3, hd] at k; cases k
theorem RA4.sd (hn : ne4 a b c d = true) (hc : done c = true) (h : RA4 w a b c d Ta Tb Tc done u W) : RA4 w a b c d Ta Tb Tc (upd done d) (fun j => if j = d then u c else u j) W := by
  obtain ⟨_, _, _, _, _, n6⟩ := ne4_all hn
  have e3 := upd_ne (done := done) n6
  refine ⟨fun k => ?_, fun _ k => ?_, fun _ k => ?_, fun _ => ?_, fun _ => ?_⟩
  · rw [e3, hc] at k; cases k
  · rw [e3, hc] at k; cases k
  · rw [e3, hc] at k; cases k
  · simpa [n6] using h.gc hc
  · simp [n6]
end
/-- how many there are -/
theorem flatN_len {α : Type} {f : Nat → List α} {k : Nat} : ∀ {n : Nat}, (∀ h, h < n → (f h).length ≤ k) → (flatN f n).length ≤ n * k := by
  intro n
  induction n with
  | zero => intro _; simp [flatN]
  | succ n ih =>
    intro h
    have h1 := ih (fun i hi => h i (by omega))
    have h2 := h n (by omega)
    simp only [flatN, List.length_append]
    rw [Nat.add_mul]; omega
theorem allF_len {nh : Nat} {hope : List Int → Bool} (h4 : nh ≤ 4) : ∀ (m : Nat) (xs : List Int), (allF nh hope m xs).length ≤ 4 ^ m := by
  intro m
  induction m with
  | zero =>
    intro xs
    unfold allF
    split <;> simp
  | succ m ih =>
    intro xs
    unfold allF
    split
    · simp
    · have h1 := flatN_len (f := fun h : Nat => allF nh hope m (xs ++ [(h : Int)])) (k := 4 ^ m) (n := nh) (fun h _ => ih _)
      have h2 := Nat.mul_le_mul_right (4 ^ m) h4
      rw [Nat.pow_succ]; omega
theorem pow_le {m : Nat} (h : m ≤ 5) : 4 ^ m ≤ 1024 := by
  have : m = 0 ∨ m = 1 ∨ m = 2 ∨ m = 3 ∨ m = 4 ∨ m = 5 := by omega
  rcases this with rfl | rfl | rfl | rfl | rfl | rfl <;> decide
theorem all_hope {nh : Nat} {hope : List Int → Bool} {m : Nat} {xs : List Int} (h : hope xs = true) : allF nh hope m xs = [] := by
  cases m <;> simp [allF, h]
theorem all_in {nh : Nat} {hope : List Int → Bool} {m : Nat} {xs : List Int} (h : hope xs = false) : allF nh hope (m + 1) xs = flatN (fun h => allF nh hope m (xs ++ [(h : Int)])) nh := by
  simp [allF, h]
theorem all_leaf {nh : Nat} {hope : List Int → Bool} {xs : List Int} (h : hope xs = false) : allF nh hope 0 xs = [xs] := by
  simp [allF, h]
theorem Try.bs38_1 (a : Option Addr) (n c : Nat) (w : World) : (Instr.buildSlice 38 1 #[(0, .slice a n c)]).run Try.prog w = .ok (.slice (some ⟨w.heap.size, 0, none⟩) 1 1) (w.alloc (.cells #[.slice a n c] 34)) := by kernel_rfl
/-- one row that a call makes of a slice -/
theorem rw_one {W : World} {B b c : Nat} {a : Option Addr} {xs : List Int} (h : W.heap[b]? = some (.cells #[.slice a xs.length c] 34)) (hB : B ≤ b) (hi : Ints W a xs.length xs) (hn : ∀ ad, a = some ad → ad.block < b) : RwAt W B (.slice (some ⟨b, 0, none⟩) 1 1) [⟨xs, a, c⟩] :=
  ⟨⟨rfl, .inr ⟨b, 1, #[.slice a xs.length c], rfl, hB, h, Nat.le_refl _, by unfold maxLen; decide, rfl, rfl⟩⟩, fun x hx => by simp at hx; subst hx; exact hi, fun x hx ad e => by
    simp at hx; subst hx
    have h1 := hn ad e
    have h2 := (Array.getElem?_eq_some_iff.1 h).1
    exact ⟨fun e2 => by simp [Value.ownBlock] at e2; omega, by omega⟩⟩
end
section
set_option linter.unusedVariables false
open Go.RowKit
section
variable {α : Type}
theorem foldR_sorted {β : Type} (f : β → (Int × Int) × α) : ∀ (A : List β) (s : List ((Int × Int) × α)), Sorted s → Sorted (A.foldl (fun s x => insR s (f x)) s) := by
  intro A
  induction A with
  | nil => intro s h; exact h
  | cons a A ih => intro s h; exact ih _ (insR_sorted h _)
/-- what stands first behind an insertion -/
theorem insR_head {s : List ((Int × Int) × α)} (hs : Sorted s) (x : (Int × Int) × α) : (insR s x)[0]? = match s[0]? with | none => some x | some y => if ltK x.1 y.1 then some x else some y := by
  unfold insR
  rw [insAt_get posR_le]
  cases hy : s[0]? with
  | none =>
    have h0 : s.length = 0 := by rw [List.getElem?_eq_none_iff] at hy; omega
    have h1 : posR s x.1 s.length = 0 := by have := posR_le (l := s) (k := x.1) (n := s.length); omega
    rw [h1]; simp
  | some y =>
    have h1 := posR_iff hs (k := x.1) hy
    cases e : ltK x.1 y.1 with
    | true =>
      have h2 := h1.1 e
      rw [show posR s x.1 s.length = 0 by omega]; simp [e]
    | false =>
      have h2 : ¬ posR s x.1 s.length ≤ 0 := fun h => by rw [h1.2 h] at e; cases e
      rw [if_pos (by omega)]; simp [e, hy]
end
theorem srtK_snoc (key : List Int → Int × Int) (l : List (List Int)) (x : List Int) : srtK key (l ++ [x]) = insR (srtK key l) (key x, x) := by
  unfold srtK; rw [List.foldl_append]; rfl
theorem srtK_sorted (key : List Int → Int × Int) (l : List (List Int)) : Sorted (srtK key l) := foldR_sorted (fun x => (key x, x)) l [] nil_sorted
/-- the best one so far is b -/
def hdC (p : Pb) (E : List BegE) (i b : Nat) : Prop := (i = 0 ∧ b = 0) ∨ (0 < i ∧ ∃ x, E[b]? = some x ∧ (srtK (keyC p) ((E.take i).map BegE.xs))[0]? = some (keyC p x.xs, x.xs))
section
variable {p : Pb} {E : List BegE} {i b : Nat} {x y : BegE}
theorem hd_next (hx : E[i]? = some x) : (E.take (i + 1)).map BegE.xs = (E.take i).map BegE.xs ++ [x.xs] := by
  have hi : i < E.length := (List.getElem?_eq_some_iff.1 hx).1
  rw [List.take_add_one, hx]; simp
theorem keyC_lt {a c : List Int} : ltK (keyC p a) (keyC p c) = decide (bndV p a < bndV p c) := by
  unfold ltK keyC; simp
theorem hd_lt (h : hdC p E i b) (hx : E[i]? = some x) (hy : E[b]? = some y) (hlt : bndV p x.xs < bndV p y.xs) : hdC p E (i + 1) i := by
  refine .inr ⟨by omega, x, hx, ?_⟩
  rw [hd_next hx, srtK_snoc, insR_head (srtK_sorted _ _)]
  rcases h with ⟨h1, h2⟩ | ⟨h1, z, hz, hs⟩
  · subst h1 h2; rw [hx] at hy; injection hy with hy; subst hy; omega
  · rw [hy] at hz; injection hz with hz; subst hz
    rw [hs]
    simp only [keyC_lt, decide_eq_true hlt, if_true]
theorem hd_ge (h : hdC p E i b) (hx : E[i]? = some x) (hy : E[b]? = some y) (hge : ¬ bndV p x.xs < bndV p y.xs) : hdC p E (i + 1) b := by
  refine .inr ⟨by omega, y, hy, ?_⟩
  rw [hd_next hx, srtK_snoc, insR_head (srtK_sorted _ _)]
  rcases h with ⟨h1, h2⟩ | ⟨h1, z, hz, hs⟩
  · subst h1 h2; rw [hx] at hy; injection hy with hy; subst hy
    simp [srtK]
  · rw [hy] at hz; injection hz with hz; subst hz
    rw [hs]
    simp only [keyC_lt, decide_eq_false hge, Bool.false_eq_true, if_false]
theorem hd_end (h : hdC p E E.length b) (h0 : 0 < E.length) (hy : E[b]? = some y) : (srtK (keyC p) (E.map BegE.xs))[0]? = some (keyC p y.xs, y.xs) := by
  rcases h with ⟨h1, _⟩ | ⟨_, z, hz, hs⟩
  · omega
  · rw [hy] at hz; injection hz with hz; subst hz
    rw [List.take_length] at hs; exact hs
end
/-- what is in the search's list -/
theorem mem_all {p : Pb} {hope : List Int → Bool} : ∀ (m : Nat) (xs : List Int), HosOk p xs → ∀ x ∈ allF p.nh hope m xs, HosOk p x ∧ x.length = xs.length + m ∧ hope x = false := by
  intro m
  induction m with
  | zero =>
    intro xs h x hx
    unfold allF at hx
    split at hx
    · simp at hx
    · simp at hx; subst hx; rename_i hh; exact ⟨h, rfl, by cases e : hope x with | true => exact absurd e hh | false => rfl⟩
  | succ m ih =>
    intro xs h x hx
    unfold allF at hx
    split at hx
    · simp at hx
    · obtain ⟨k, hk, hx⟩ := flatN_mem.1 hx
      obtain ⟨h1, h2, h3⟩ := ih _ (h.app hk) x hx
      exact ⟨h1, by simp at h2; omega, h3⟩
theorem mem_allP {p : Pb} {x : List Int} (h : x ∈ allP p) : HosOk p x ∧ x.length = p.nt ∧ hopeB p (tim p) x = false := by
  obtain ⟨h1, h2, h3⟩ := mem_all p.nt [] HosOk.nil x h
  exact ⟨h1, by simpa using h2, h3⟩
/-- the first plan, its cost, and whether there is one -/
def firR (p : Pb) : List Int × Int × Bool := match srtK (keyC p) (allP p) with
  | [] => ([], 0, false)
  | y :: _ => (y.2, y.1.2, true)
theorem fir_0 {p : Pb} {E : List BegE} (hE : E.map BegE.xs = allP p) (h : E.length = 0) : firR p = ([], 0, false) := by
  have : E = [] := List.eq_nil_of_length_eq_zero h
  subst this
  unfold firR
  rw [← hE]; rfl
theorem fir_1 {p : Pb} {E : List BegE} {x : BegE} (hE : E.map BegE.xs = allP p) (h : (srtK (keyC p) (E.map BegE.xs))[0]? = some (keyC p x.xs, x.xs)) : firR p = (x.xs, bndV p x.xs, true) := by
  unfold firR
  rw [← hE]
  cases hs : srtK (keyC p) (E.map BegE.xs) with
  | nil => rw [hs] at h; simp at h
  | cons y t => rw [hs] at h; simp at h; subst h; rfl
theorem best_no {p : Pb} (h : chkE p = 0) (k : (firR p).2.2 = false) : bestR p = ([], 0, 3) := by
  unfold bestR; rw [if_neg (by rw [h]; decide)]
  unfold firR at k
  cases hs : srtK (keyC p) (allP p) with
  | nil => rfl
  | cons y t => rw [hs] at k; cases k
theorem best_yes {p : Pb} (h : chkE p = 0) (k : (firR p).2.2 = true) : bestR p = ((firR p).1, (firR p).2.1, 0) := by
  unfold bestR; rw [if_neg (by rw [h]; decide)]
  unfold firR at k ⊢
  cases hs : srtK (keyC p) (allP p) with
  | nil => rw [hs] at k; cases k
  | cons y t => rfl
theorem Ints.nilZ (w : World) : Ints w none ([] : List Int).length [] := ⟨rfl, by decide, fun j hj => by simp at hj⟩
end
section
open Go.RowKit

section
variable {p : Pb} {xs : List Int} {wh : Bool}
end
section
variable {p : Pb} {xs : List Int}
theorem hund_100 (p : Pb) : hund p 100 = tim p := by
  funext i; unfold hund tim; omega
end
end
section
open Go.RowKit
end
section
open Go.RowKit
end
section
open Go.RowKit

set_option maxRecDepth 100000 in
set_option maxHeartbeats 400000 in
theorem withL_any (a : Option Addr) (c : Nat) (xs : List Int) (x : Int) (w : World) (hX : Ints w a xs.length xs) (hl : xs.length ≤ 1000) :
  Calls Try.prog 101 #[.slice a xs.length c, Vi x] w fun e w' => ∃ g c', e = .returned (.slice (some ⟨g, 0, none⟩) (xs ++ [x]).length c') ∧ BegAt w' w.heap.size (some ⟨g, 0, none⟩) c' (xs ++ [x]) ∧ Gr w w' := by
 have G := Gr.refl w
 have hxs := hX
 have hgz := Nat.le_refl w.heap.size
 refine Y.calls 11 Try.func101 rfl rfl ?_
 intro ac F0
 have F : Fr ac 11 [(0, .slice a xs.length c), (1, Vi x)] := F0.sub _
 clear F0
 refine Y.seq ?_
 refine Y.lit (by kernel_rfl) ?_
 refine Y.pv F (X.assign rfl (X.kc (.slice none 0 0) rfl)) ?_;clear F ac;intro ac F
 refine Y.nil ?_
 replace F : Fr ac 11 [(0, .slice a xs.length c), (1, Vi x)] := F.sub _
 refine X.thenN ?_
 refine Y.seq ?_
 refine Y.lit (by kernel_rfl) ?_
 refine Y.pv F (X.bs rfl X.bs0 (Try.bs34_0 _)) ?_;clear F ac;intro ac F
 have g := Gr.alloc w (.cells #[] 3)
 have hO := ownR_new (k := 1) (heap_alloc_new w (.cells #[] 3)) (Nat.le_refl _)
 generalize w.alloc (.cells #[] 3) = w3 at *
 replace G := G.trans g
 replace hxs := hxs.gr g
 clear g
 refine Y.pv F (X.move rfl (F.ev 0 (.slice a xs.length c))) ?_;clear F ac;intro ac F
 obtain ⟨ra, rc, w4, hrun, hO2, g⟩ := run_copyN (P := Try.prog) (ts := 34) Try.underlying34 Try.info3 rfl (by decide) hO (ints_tb hxs).2 (by rw [List.length_map, Nat.mul_one]) (ints_tb hxs).1 (ints_all xs) (by omega) (by decide) G.size
 refine Y.pv F (Y.apz rfl (F.ev 5 (.slice (some ⟨w.heap.size, 0, none⟩) 0 0)) (F.ev 6 (.slice a xs.length c)) hrun) ?_
 clear F ac hrun
 intro ac F
 replace G := G.trans g
 replace hxs := hxs.gr g
 refine Y.pv F (X.move rfl (F.ev 1 (Vi x))) ?_;clear F ac;intro ac F
 refine Y.pv F (X.bs rfl (X.b1 (F.ev 8 (Vi x))) (Try.bs34_1 _ _)) ?_;clear F ac;intro ac F
 have g := Gr.alloc w4 (.cells #[Vi x] 3)
 have hg9 := heap_alloc_new w4 (.cells #[Vi x] 3)
 replace hO2 := hO2.gr g
 generalize w4.alloc (.cells #[Vi x] 3) = w5 at *
 replace G := G.trans g
 replace hxs := hxs.gr g
 clear g
 refine Y.wpL_plain rfl fun _ hK => wp_pushV Try.underlying34 Try.info3 rfl (by decide) rfl (F.ev 7 (.slice ra xs.length rc)) (F.ev 9 (.slice (some ⟨w4.heap.size, 0, none⟩) 1 1)) hO2 (m := 1) (news := [Vi x]) rfl (cells_at (vs := [Vi x]) hg9) rfl (by omega) (by decide) (Nat.le_trans hgz G.size) (fun v2 w6 hO3 hon hat => hK _ _ ?_)
 refine Y.pput F rfl ?_
 clear F ac hat
 intro ac F
 obtain ⟨g5, c5, rfl, hb5⟩ := OwnR.beg (xs := xs ++ [x]) (by rw [List.map_append, List.length_append]; exact hO3) (by simp; omega) (by simp)
 replace G := OnlyG G hon (fun b e => Nat.le_trans hgz (hO2.ge e).1)
 refine Y.pv F (X.assign rfl (F.ev 10 (.slice (some ⟨g5, 0, none⟩) ((xs ++ [x]).length) c5))) ?_;clear F ac;intro ac F
 refine Y.nil ?_
 replace F : Fr ac 11 [(4, .slice (some ⟨g5, 0, none⟩) ((xs ++ [x]).length) c5)] := F.sub _
 refine X.thenN ?_
 refine Y.ret ?_
 exact Y.ret0 (v := .slice (some ⟨g5, 0, none⟩) ((xs ++ [x]).length) c5) F (Y.rs1 F rfl (by kernel_rfl)) ⟨g5, c5, rfl, hb5.lower hgz, G⟩
/-- what the reference's search returns from a beginning on, with m tasks to come -/
def AllC (p : Pb) (ta ha ba la : Option Addr) (tc hc bc lc m : Nat) : Prop :=
 ∀ (xs : List Int) (a : Option Addr) (c : Nat) (w : World), PbAt w p ta ha ba la tc hc bc lc → xs.length + m = p.nt → HosOk p xs → Ints w a xs.length xs → (∀ ad, a = some ad → ad.block < w.heap.size) →
  Calls Try.prog 68 #[.agg #[.slice ta p.nt tc, .slice ha p.nh hc, .slice ba p.nb bc, .slice la p.nl lc], .slice a xs.length c] w fun e w' =>
   ∃ v E, e = .returned v ∧ RwAt w' w.heap.size v E ∧ E.map BegE.xs = allF p.nh (hopeB p (tim p)) m xs ∧ (∀ x ∈ E, x.a = a ∨ ∀ ad, x.a = some ad → w.heap.size ≤ ad.block) ∧ Gr w w'
set_option maxRecDepth 100000 in
set_option maxHeartbeats 2000000 in
theorem all_step (p : Pb) (ta ha ba la : Option Addr) (tc hc bc lc : Nat) (m : Nat) (hp : PbOk p) (hsm : p.nt ≤ 5 ∧ p.nh ≤ 4) (ih : ∀ k, m = k + 1 → AllC p ta ha ba la tc hc bc lc k)
  (xs : List Int) (a : Option Addr) (c : Nat) (w : World) (hP : PbAt w p ta ha ba la tc hc bc lc) (hm : xs.length + m = p.nt) (hx : HosOk p xs) (hX : Ints w a xs.length xs) (hXb : ∀ ad, a = some ad → ad.block < w.heap.size) :
  Calls Try.prog 68 #[.agg #[.slice ta p.nt tc, .slice ha p.nh hc, .slice ba p.nb bc, .slice la p.nl lc], .slice a xs.length c] w fun e w' => ∃ v E, e = .returned v ∧ RwAt w' w.heap.size v E ∧ E.map BegE.xs = allF p.nh (hopeB p (tim p)) m xs ∧ (∀ x ∈ E, x.a = a ∨ ∀ ad, x.a = some ad → w.heap.size ≤ ad.block) ∧ Gr w w' := by
 have G := Gr.refl w
 have hpt := hP.t
 have hph := hP.h
 have hpb := hP.b
 have hpl := hP.l
 have hplen := hP.len
 obtain ⟨hn1, hn2, hn3, hn4⟩ := hplen
 have hcp1 := hpt.cap
 have hcp2 := hph.cap
 have hcp3 := hpb.cap
 have hcp4 := hpl.cap
 have hxs := hX
 have hlen : xs.length ≤ p.nt := by omega
 have hs1 := hsm.1
 have hs2 := hsm.2
 refine Y.calls 33 Try.func68 rfl rfl ?_
 intro ac F0
 have F : Fr ac 33 [(0, .agg #[.slice ta p.nt tc, .slice ha p.nh hc, .slice ba p.nb bc, .slice la p.nl lc]), (1, .slice a xs.length c)] := F0.sub _
 clear F0
 refine Y.seq ?_
 refine Y.lit (by kernel_rfl) ?_
 have hgs3 : w.heap.size ≤ w.heap.size := G.size
 refine Y.pv F (X.box rfl (F.ev 0 (.agg #[.slice ta p.nt tc, .slice ha p.nh hc, .slice ba p.nb bc, .slice la p.nl lc])) X.bx) ?_;clear F ac;intro ac F
 have hgs5 : w.heap.size ≤ w.heap.size := G.size
 have g := Gr.alloc w (.cells #[.slice ta p.nt tc, .slice ha p.nh hc, .slice ba p.nb bc, .slice la p.nl lc] 27)
 have hb := heap_alloc_new w (.cells #[.slice ta p.nt tc, .slice ha p.nh hc, .slice ba p.nb bc, .slice la p.nl lc] 27)
 have hbl : w.heap.size < (w.alloc (.cells #[.slice ta p.nt tc, .slice ha p.nh hc, .slice ba p.nb bc, .slice la p.nl lc] 27)).heap.size := by simp
 have hC2 : RCells (w.alloc (.cells #[.slice ta p.nt tc, .slice ha p.nh hc, .slice ba p.nb bc, .slice la p.nl lc] 27)) [(Ad w.heap.size 0, .slice ta p.nt tc), (Ad w.heap.size 1, .slice ha p.nh hc), (Ad w.heap.size 2, .slice ba p.nb bc), (Ad w.heap.size 3, .slice la p.nl lc)] := (RCells.nil w).box (b := w.heap.size) #[.slice ta p.nt tc, .slice ha p.nh hc, .slice ba p.nb bc, .slice la p.nl lc] 27 rfl
 generalize w.alloc (.cells #[.slice ta p.nt tc, .slice ha p.nh hc, .slice ba p.nb bc, .slice la p.nl lc] 27) = w6 at *
 replace G := G.trans g
 have hC := hC2
 clear hC2
 replace hpt := hpt.gr g
 replace hph := hph.gr g
 replace hpb := hpb.gr g
 replace hpl := hpl.gr g
 replace hxs := hxs.gr g
 have hsz4 := hbl
 clear g hb hbl
 refine Y.pv F (X.assign rfl (X.kc (.slice none 0 0) rfl)) ?_;clear F ac;intro ac F
 refine Y.nil ?_
 replace F : Fr ac 33 [(1, .slice a xs.length c), (2, Vp w.heap.size)] := F.sub _
 refine X.thenN ?_
 refine Y.seq ?_
 refine Y.seq ?_
 refine Y.lit (by kernel_rfl) ?_
 refine Y.pv F (X.load rfl (F.ev 2 (Vp w.heap.size)) (X.ldN (Try.agg27 _) (Try.siz27 _) (Y.atz (⟨w.heap.size, 0, none⟩) (Y.AtFrom.cons (hC.at 0 rfl) (Y.AtFrom.cons (hC.at 1 rfl) (Y.AtFrom.cons (hC.at 2 rfl) (Y.AtFrom.cons (hC.at 3 rfl) (Y.AtFrom.nil _ _ _)))))))) ?_;clear F ac;intro ac F
 refine Y.pv F (X.move rfl (F.ev 1 (.slice a xs.length c))) ?_;clear F ac;intro ac F
 refine Y.pcall F (X.w0 rfl) rfl (X.enter (F := 75) rfl (X.kc (.func (.func 75) #[] #[]) rfl) (X.a3 (F.ev 7 (.agg #[.slice ta p.nt tc, .slice ha p.nh hc, .slice ba p.nb bc, .slice la p.nl lc])) (F.ev 8 (.slice a xs.length c)) (X.kc (Vi 100) rfl)) (enters_of Try.func75 (by kernel_rfl) rfl _)) (by have hq := hop2_any p ta ha ba la tc hc bc lc a c xs 100 w6 (hP.gr G) (hX.gr G) hp hx hlen (by decide); rw [hund_100] at hq; exact hq) ?_
 clear F ac
 rintro e w7 ⟨rfl, g⟩
 refine ⟨_, rfl, ?_⟩
 intro ac F
 replace G := G.trans g
 replace hC := hC.gr g
 replace hpt := hpt.gr g
 replace hph := hph.gr g
 replace hpb := hpb.gr g
 replace hpl := hpl.gr g
 replace hxs := hxs.gr g
 clear g
 refine Y.nil ?_
 replace F : Fr ac 33 [(1, .slice a xs.length c), (2, Vp w.heap.size), (9, .bool (hopeB p (tim p) xs))] := F.sub _
 refine X.thenN ?_
 cases h8 : hopeB p (tim p) xs with
 | false =>
  try rw [h8] at F
  refine Y.condF (F.ev 9 (.bool false)) ?_
  refine Y.skip ?_
  refine X.thenN ?_
  refine Y.seq ?_
  refine Y.seq ?_
  refine Y.lit (by kernel_rfl) ?_
  refine Y.pv F (X.move rfl (F.ev 1 (.slice a xs.length c))) ?_;clear F ac;intro ac F
  refine Y.pv F (X.len1 Try.underlying34 rfl (F.ev 10 (.slice a xs.length c))) ?_;clear F ac;intro ac F
  refine Y.pv F (X.field rfl (F.ev 2 (Vp w.heap.size)) (X.fld Try.underlying27 rfl (Try.siz22 _) rfl rfl)) ?_;clear F ac;intro ac F
  refine Y.pv F (X.load rfl (F.ev 12 (Vp w.heap.size)) (X.ld1 (Try.agg22 _) (hC.at 0 rfl))) ?_;clear F ac;intro ac F
  refine Y.pv F (X.len1 Try.underlying22 rfl (F.ev 13 (.slice ta p.nt tc))) ?_;clear F ac;intro ac F
  refine Y.pv F (X.binop rfl (F.ev 11 (Vi xs.length)) (F.ev 14 (Vi p.nt)) (X.eqlI Try.underlying3 rfl)) ?_;clear F ac;intro ac F
  refine Y.nil ?_
  replace F : Fr ac 33 [(1, .slice a xs.length c), (2, Vp w.heap.size), (15, .bool ((xs.length : Int) == p.nt))] := F.sub _
  refine X.thenN ?_
  cases h9 : ((xs.length : Int) == p.nt) with
  | false =>
   try rw [h9] at F
   have h9p : ¬ (xs.length : Int) = p.nt := by simpa using h9
   obtain ⟨k, rfl⟩ : ∃ k, m = k + 1 := ⟨m - 1, by omega⟩
   refine Y.condF (F.ev 15 (.bool false)) ?_
   refine Y.skip ?_
   refine X.thenN ?_
   refine Y.seq ?_
   refine Y.lit (by kernel_rfl) ?_
   refine Y.pv F (X.assign rfl (X.kc (.slice none 0 0) rfl)) ?_;clear F ac;intro ac F
   refine Y.nil ?_
   replace F : Fr ac 33 [(1, .slice a xs.length c), (2, Vp w.heap.size), (5, .slice none 0 0)] := F.sub _
   refine X.thenN ?_
   refine Y.seq ?_
   refine Y.seq ?_
   refine Y.lit (by kernel_rfl) ?_
   refine Y.pv F (X.assign rfl (X.kc (Vi 0) rfl)) ?_;clear F ac;intro ac F
   refine Y.nil ?_
   replace F : Fr ac 33 [(1, .slice a xs.length c), (2, Vp w.heap.size), (5, .slice none 0 0), (6, Vi 0)] := F.sub _
   refine X.thenN ?_
   refine Y.block ?_
   have hwl0 : w.heap.size ≤ w7.heap.size := G.size
   have hbp7 : w.heap.size < w7.heap.size := lt_cell (hC.at 0 rfl)
   refine Y.loop (fun me_ ac wr => ∃ (h : Nat) (E : List BegE) (oa : Option Addr) (oc : Nat), me_ = p.nh - h ∧ Only (fun b => False) w7 wr ∧ h ≤ p.nh ∧ RwAt wr w7.heap.size (.slice oa E.length oc) E ∧ E.map BegE.xs = flatN (fun h : Nat => allF p.nh (hopeB p (tim p)) k (xs ++ [(h : Int)])) h ∧ (∀ x ∈ E, ∀ ad, x.a = some ad → w.heap.size ≤ ad.block) ∧ Fr ac 33 [(1, .slice a xs.length c), (2, Vp w.heap.size), (5, .slice oa E.length oc), (6, Vi h)]) _ ⟨0, [], none, 0, rfl, Only.refl _ _, Nat.zero_le _, RwAt.nil _ _, rfl, fun x hx => (by simp at hx), F.sub _⟩ ?_
   have hptB1 := hpt
   have hphB1 := hph
   have hpbB1 := hpb
   have hplB1 := hpl
   have hxsB1 := hxs
   have GB1 := G
   have hCB1 := hC
   clear F ac
   intro me_ ac w10 hI
   obtain ⟨h, E, oa, oc, rfl, hO1, hh, hRw, hmap, hbk, F⟩ := hI
   replace G := GB1.trans (hO1.gr (fun _ _ h => h))
   replace hpt := (hP.t).gr G
   replace hph := (hP.h).gr G
   replace hpb := (hP.b).gr G
   replace hpl := (hP.l).gr G
   replace hxs := (hX).gr G
   replace hC := (RCells.cons (hO1.cell (hCB1.at 0 rfl) (fun h => h)) (RCells.cons (hO1.cell (hCB1.at 1 rfl) (fun h => h)) (RCells.cons (hO1.cell (hCB1.at 2 rfl) (fun h => h)) (RCells.cons (hO1.cell (hCB1.at 3 rfl) (fun h => h)) (RCells.nil _)))))
   refine Y.seq ?_
   refine Y.seq ?_
   refine Y.lit (by kernel_rfl) ?_
   refine Y.pv F (X.move rfl (F.ev 6 (Vi h))) ?_;clear F ac;intro ac F
   refine Y.pv F (X.field rfl (F.ev 2 (Vp w.heap.size)) (X.fld Try.underlying27 rfl (Try.siz23 _) rfl rfl)) ?_;clear F ac;intro ac F
   refine Y.pv F (X.load rfl (F.ev 19 (.pointer (some ⟨w.heap.size, 1, none⟩))) (X.ld1 (Try.agg23 _) (hC.at 1 rfl))) ?_;clear F ac;intro ac F
   refine Y.pv F (X.len1 Try.underlying23 rfl (F.ev 20 (.slice ha p.nh hc))) ?_;clear F ac;intro ac F
   refine Y.pv F (X.binop rfl (F.ev 18 (Vi h)) (F.ev 21 (Vi p.nh)) (X.lssI Try.underlying3 rfl)) ?_;clear F ac;intro ac F
   refine Y.nil ?_
   replace F : Fr ac 33 [(1, .slice a xs.length c), (2, Vp w.heap.size), (5, .slice oa E.length oc), (6, Vi h), (22, .bool (decide ((h : Int) < p.nh)))] := F.sub _
   refine X.thenN ?_
   cases h11 : decide ((h : Int) < p.nh) with
   | false =>
    try rw [h11] at F
    have h11p : ¬ ((h : Int) < p.nh) := of_decide_eq_false h11
    obtain rfl : h = p.nh := by omega
    refine Y.condF (F.ev 22 (.bool false)) ?_
    refine Y.exit ?_
    refine X.thenX ?_
    refine X.thenX ?_
    refine X.blockX ?_
    refine X.thenN ?_
    refine Y.seq ?_
    refine Y.lit (by kernel_rfl) ?_
    refine Y.pv F (X.move rfl (F.ev 5 (.slice oa E.length oc))) ?_;clear F ac;intro ac F
    refine Y.pv F (X.assign rfl (F.ev 32 (.slice oa E.length oc))) ?_;clear F ac;intro ac F
    refine Y.nil ?_
    replace F : Fr ac 33 [(4, .slice oa E.length oc)] := F.sub _
    refine X.thenN ?_
    refine Y.ret ?_
    exact Y.ret0 (v := .slice oa E.length oc) F (Y.rs1 F rfl (by kernel_rfl)) ⟨_, E, rfl, hRw.lower hwl0, by rw [all_in h8]; exact hmap, fun x hx => .inr (hbk x hx), G⟩
   | true =>
    try rw [h11] at F
    have h11p : ((h : Int) < p.nh) := of_decide_eq_true h11
    have hi2 : h < p.nh := by omega
    refine Y.condT (F.ev 22 (.bool true)) ?_
    refine Y.skip ?_
    refine X.thenN ?_
    refine Y.seq ?_
    refine Y.block ?_
    have hOs := hO1.size
    have hwq : w.heap.size ≤ w10.heap.size := G.size
    have hE1 : E.length ≤ 4096 := by
     have h1 := congrArg List.length hmap
     rw [List.length_map] at h1
     have h2 := flatN_len (f := (fun h : Nat => allF p.nh (hopeB p (tim p)) k (xs ++ [(h : Int)]))) (k := 4 ^ k) (n := h) (fun h _ => allF_len hsm.2 k _)
     have h3 := pow_le (m := k) (by omega)
     have h4 := Nat.mul_le_mul (show h ≤ 4 by omega) h3
     omega
    obtain ⟨Ta, hTa⟩ : ∃ T : Value → World → Prop, T = fun v W => ∃ g4 c4, v = .slice (some ⟨g4, 0, none⟩) (xs ++ [(h : Int)]).length c4 ∧ BegAt W w10.heap.size (some ⟨g4, 0, none⟩) c4 (xs ++ [(h : Int)]) := ⟨_, rfl⟩
    obtain ⟨Tb, hTb⟩ : ∃ T : Value → World → Prop, T = fun v W => ∃ E2 : List BegE, RwAt W w10.heap.size v E2 ∧ E2.map BegE.xs = allF p.nh (hopeB p (tim p)) k (xs ++ [(h : Int)]) ∧ ∀ x ∈ E2, ∀ ad, x.a = some ad → w10.heap.size ≤ ad.block := ⟨_, rfl⟩
    obtain ⟨Tc, hTc⟩ : ∃ T : Value → World → Prop, T = fun v W => ∃ E2 : List BegE, E2.map BegE.xs = allF p.nh (hopeB p (tim p)) k (xs ++ [(h : Int)]) ∧ (∀ x ∈ E2, ∀ ad, x.a = some ad → w10.heap.size ≤ ad.block) ∧ RwAt W w7.heap.size v (E ++ E2) ∧ Only (fun b => (Value.slice oa E.length oc).ownBlock = some b) w10 W := ⟨_, rfl⟩
    have uTa : UpV Ta := by subst hTa; exact fun v W W2 ⟨g4, c4, e, h⟩ g => ⟨g4, c4, e, h.gr g⟩
    have uTb : UpV Tb := by subst hTb; exact fun v W W2 ⟨E2, h1, h2, h3⟩ g => ⟨E2, h1.gr g, h2, h3⟩
    refine region_xi F [some (.slice oa E.length oc), some (.agg #[.slice ta p.nt tc, .slice ha p.nh hc, .slice ba p.nb bc, .slice la p.nl lc]), some (.slice a xs.length c), some (Vi h), none, none, none, none] (RA4 w10 4 5 6 7 Ta Tb Tc) rfl ⟨by kernel_rfl, of_decide_eq_true (by kernel_rfl), by kernel_rfl, by kernel_rfl, by kernel_rfl⟩ (fun _ => ⟨RA4.start (Gr.refl _), RA4.start (Gr.drew _)⟩) ⟨?_, ?_, ?_, ?_, ?_, ?_, ?_, ?_, trivial⟩ ?_
    ·intro ac done u W Sx hR
     have g : Gr w10 W := hR.g (Sx.no 6 (by kernel_rfl))
     exact X.vl (X.move rfl (Sx.ev 5 (.slice oa E.length oc))) (hR.quiet uTa uTb (Sx.no 6 (by kernel_rfl)) (Sx.no 7 (by kernel_rfl)) (Gr.refl _) (by decide))
    ·intro ac done u W Sx hR
     have g : Gr w10 W := hR.g (Sx.no 6 (by kernel_rfl))
     exact X.vl (X.load rfl (Sx.ev 2 (Vp w.heap.size)) (X.ldN (Try.agg27 _) (Try.siz27 _) (Y.atz (⟨w.heap.size, 0, none⟩) (Y.AtFrom.cons ((hC.gr g).at 0 rfl) (Y.AtFrom.cons ((hC.gr g).at 1 rfl) (Y.AtFrom.cons ((hC.gr g).at 2 rfl) (Y.AtFrom.cons ((hC.gr g).at 3 rfl) (Y.AtFrom.nil _ _ _)))))))) (hR.quiet uTa uTb (Sx.no 6 (by kernel_rfl)) (Sx.no 7 (by kernel_rfl)) (Gr.refl _) (by decide))
    ·intro ac done u W Sx hR
     have g : Gr w10 W := hR.g (Sx.no 6 (by kernel_rfl))
     exact X.vl (X.move rfl (Sx.ev 1 (.slice a xs.length c))) (hR.quiet uTa uTb (Sx.no 6 (by kernel_rfl)) (Sx.no 7 (by kernel_rfl)) (Gr.refl _) (by decide))
    ·intro ac done u W Sx hR
     have g : Gr w10 W := hR.g (Sx.no 6 (by kernel_rfl))
     exact X.vl (X.move rfl (Sx.ev 6 (Vi h))) (hR.quiet uTa uTb (Sx.no 6 (by kernel_rfl)) (Sx.no 7 (by kernel_rfl)) (Gr.refl _) (by decide))
    ·intro ac done u W Sx hR
     have g : Gr w10 W := hR.g (Sx.no 6 (by kernel_rfl))
     refine X.call (X.w0 rfl) (X.enter (F := 101) rfl (X.kc (.func (.func 101) #[] #[]) rfl) (X.a2 (Sx.ev 27 (.slice a xs.length c)) (Sx.ev 28 (Vi h))) (enters_of Try.func101 (by kernel_rfl) rfl _)) (withL_any a c xs (h : Int) W (hX.gr (G.trans g)) (by omega)) ?_
     rintro e W2 ⟨g4, c4, rfl, hb4, g2⟩
     exact ⟨_, rfl, X.un rfl, hR.sa (by decide) uTb (Sx.no 6 (by kernel_rfl)) (Sx.no 7 (by kernel_rfl)) g2 (by subst hTa; exact ⟨g4, c4, rfl, hb4.lower g.size⟩)⟩
    ·intro ac done u W Sx hR
     have g : Gr w10 W := hR.g (Sx.no 6 (by kernel_rfl))
     have hA := hR.ga (Sx.an 4 (by kernel_rfl)) (Sx.no 6 (by kernel_rfl))
     rw [hTa] at hA
     obtain ⟨g4, c4, e4, hb4⟩ := hA
     have hq := ih k rfl (xs ++ [(h : Int)]) (some ⟨g4, 0, none⟩) c4 W (hP.gr (G.trans g)) (by simp; omega) (hx.app hi2) hb4.i (fun ad e => (hb4.ge ad e).2)
     refine X.call (X.w0 rfl) (X.enter (F := 68) rfl (X.kc (.func (.func 68) #[] #[]) rfl) (X.a2 (Sx.ev 26 (.agg #[.slice ta p.nt tc, .slice ha p.nh hc, .slice ba p.nb bc, .slice la p.nl lc])) ((Sx.own 4 29 rfl).trans e4)) (enters_of Try.func68 (by kernel_rfl) rfl _)) hq ?_
     rintro e W2 ⟨v2, E2, rfl, hRw2, hm2, hb2, g2⟩
     exact ⟨_, rfl, X.un rfl, hR.sb (by decide) uTa (Sx.no 6 (by kernel_rfl)) (Sx.no 7 (by kernel_rfl)) g2 (by subst hTb; exact ⟨E2, hRw2.lower g.size, hm2, fun x hx ad e => (hb2 x hx).elim (fun h9 => by rw [h9] at e; injection e with e; subst e; exact (hb4.ge _ rfl).1) (fun h9 => Nat.le_trans g.size (h9 ad e))⟩)⟩
    ·intro ac done u W Sx hR
     have g : Gr w10 W := hR.g Sx.nd
     have hBb := hR.gb (Sx.an 5 (by kernel_rfl)) Sx.nd
     rw [hTb] at hBb
     obtain ⟨E2, hRw2, hm2, hb2⟩ := hBb
     obtain ⟨sa, sc, e5⟩ := hRw2.form
     rw [e5] at hRw2
     have hE2 : E2.length ≤ 1024 := by
      have h1 := congrArg List.length hm2
      rw [List.length_map] at h1
      have h2 := allF_len (hope := (hopeB p (tim p))) hsm.2 k (xs ++ [(h : Int)])
      have h3 := pow_le (m := k) (by omega)
      omega
     refine X.law (X.w0 rfl) (fun K_ hK => wp_pushG Try.underlying38 Try.info34 rfl (by decide) rfl (Sx.ev 25 (.slice oa E.length oc)) ((Sx.own 5 30 rfl).trans e5) (hRw.o.gr g) hRw2.none0 (by rw [rowsV_len, Nat.mul_one]) hRw2.src (rowsV_all E2) (by omega) (by decide) (Nat.le_trans (by omega) g.size) (fun v2 W2 hO2 hon hat => hK v2 W2 (fun x hx => by cases hx) (RA4.sc (by decide) (Sx.no 7 (by kernel_rfl)) ?_)))
     subst hTc
     exact ⟨E2, hm2, hb2, (hRw.gr g).push hRw2 hO2 hon hat (fun x hx ad e h9 => by have h8 := (hRw.o.ge h9).2; have h7 := hb2 x hx ad e; omega), (g.only _).trans hon⟩
    ·intro ac done u W Sx hR
     exact X.valN (X.w0 rfl) rfl (X.assign rfl (Sx.own 6 31 rfl)) (hR.sd (by decide) (Sx.an 6 (by kernel_rfl)))
    rintro ac u w12 hs hd hl_ ho hR
    have hcc := hR.gc rfl
    have e7 := hR.gd rfl
    rw [hTc] at hcc
    obtain ⟨E2, hm2, hb2, hRw2, hon⟩ := hcc
    obtain ⟨oa2, oc2, e6⟩ := hRw2.form
    rw [e6] at hRw2 e7
    clear hTa hTb hTc uTa uTb e6
    replace F : Fr ac 33 [(1, .slice a xs.length c), (2, Vp w.heap.size), (6, Vi h)] := X.fr hs hd hl_ _ (by kernel_rfl)
    replace F := F.add (ho 7 5 rfl) e7
    clear hs hd hl_ ho hR e7
    replace F : Fr ac 33 [(1, .slice a xs.length c), (2, Vp w.heap.size), (5, .slice oa2 ((E ++ E2).length) oc2), (6, Vi h)] := F.sub _
    have hlo : ∀ b, (Value.slice oa E.length oc).ownBlock = some b → w7.heap.size ≤ b := fun b e => (hRw.o.ge e).1
    replace hO1 := hO1.step2 hon (fun r e => .inr (hlo r e))
    replace G := ((G.only (fun b => w7.heap.size ≤ b)).trans (hon.mono' (fun i e => hlo i e))).gr (fun i hi e => by omega)
    replace hpt := (hP.t).gr G
    replace hph := (hP.h).gr G
    replace hpb := (hP.b).gr G
    replace hpl := (hP.l).gr G
    replace hxs := (hX).gr G
    replace hC := (RCells.cons (hon.cell (hC.at 0 rfl) (fun e => by have h9 := hlo _ e; simp only at h9; omega)) (RCells.cons (hon.cell (hC.at 1 rfl) (fun e => by have h9 := hlo _ e; simp only at h9; omega)) (RCells.cons (hon.cell (hC.at 2 rfl) (fun e => by have h9 := hlo _ e; simp only at h9; omega)) (RCells.cons (hon.cell (hC.at 3 rfl) (fun e => by have h9 := hlo _ e; simp only at h9; omega)) (RCells.nil _)))))
    clear hon hlo
    refine X.blockN ?_
    refine X.thenN ?_
    refine Y.lit (by kernel_rfl) ?_
    refine Y.pv F (X.move rfl (F.ev 6 (Vi h))) ?_;clear F ac;intro ac F
    refine Y.pv F (X.binop rfl (F.ev 23 (Vi h)) (X.kc (Vi 1) rfl) (X.addI Try.underlying3 rfl (by omega) (by omega))) ?_;clear F ac;intro ac F
    refine Y.pv F (X.assign rfl (F.ev 24 (Vi ((h : Int) + 1)))) ?_;clear F ac;intro ac F
    refine Y.nil ?_
    replace F : Fr ac 33 [(1, .slice a xs.length c), (2, Vp w.heap.size), (5, .slice oa2 ((E ++ E2).length) oc2), (6, Vi ((h : Int) + 1))] := F.sub _
    refine X.thenN ?_
    refine ⟨_, ?_, h + 1, E ++ E2, oa2, oc2, rfl, hO1, by omega, hRw2, by rw [List.map_append, hmap, hm2]; rfl, fun x hx ad e => (List.mem_append.1 hx).elim (fun hx => hbk x hx ad e) (fun hx => Nat.le_trans hwq (hb2 x hx ad e)), F.sub _⟩
    omega
  | true =>
   try rw [h9] at F
   have h9p : (xs.length : Int) = p.nt := by simpa using h9
   obtain rfl : m = 0 := by omega
   refine Y.condT (F.ev 15 (.bool true)) ?_
   refine Y.seq ?_
   refine Y.lit (by kernel_rfl) ?_
   refine Y.pv F (X.move rfl (F.ev 1 (.slice a xs.length c))) ?_;clear F ac;intro ac F
   refine Y.pv F (X.bs rfl (X.b1 (F.ev 16 (.slice a xs.length c))) (Try.bs38_1 _ _ _ _)) ?_;clear F ac;intro ac F
   have g := Gr.alloc w7 (.cells #[.slice a xs.length c] 34)
   have hR1 := rw_one (heap_alloc_new w7 (.cells #[.slice a xs.length c] 34)) G.size ((hX.gr G).gr g) (fun ad e => Nat.lt_of_lt_of_le (hXb ad e) G.size)
   generalize w7.alloc (.cells #[.slice a xs.length c] 34) = w13 at *
   replace G := G.trans g
   replace hC := hC.gr g
   replace hpt := hpt.gr g
   replace hph := hph.gr g
   replace hpb := hpb.gr g
   replace hpl := hpl.gr g
   replace hxs := hxs.gr g
   clear g
   refine Y.pv F (X.assign rfl (F.ev 17 (.slice (some ⟨w7.heap.size, 0, none⟩) 1 1))) ?_;clear F ac;intro ac F
   refine Y.nil ?_
   replace F : Fr ac 33 [(4, .slice (some ⟨w7.heap.size, 0, none⟩) 1 1)] := F.sub _
   refine X.thenN ?_
   refine Y.ret ?_
   refine X.thenR ?_
   exact Y.ret0 (v := .slice (some ⟨w7.heap.size, 0, none⟩) 1 1) F (Y.rs1 F rfl (by kernel_rfl)) ⟨_, [⟨xs, a, c⟩], rfl, hR1, by rw [all_leaf h8]; rfl, fun x hx => (by simp at hx; subst hx; exact .inl rfl), G⟩
 | true =>
  try rw [h8] at F
  refine Y.condT (F.ev 9 (.bool true)) ?_
  refine Y.seq ?_
  refine Y.lit (by kernel_rfl) ?_
  refine Y.pv F (X.assign rfl (X.kc (.slice none 0 0) rfl)) ?_;clear F ac;intro ac F
  refine Y.nil ?_
  replace F : Fr ac 33 [(4, .slice none 0 0)] := F.sub _
  refine X.thenN ?_
  refine Y.ret ?_
  refine X.thenR ?_
  exact Y.ret0 (v := .slice none 0 0) F (Y.rs1 F rfl (by kernel_rfl)) ⟨_, [], rfl, RwAt.nil _ _, by rw [all_hope h8]; rfl, fun x hx => (by simp at hx), G⟩
theorem all_any (p : Pb) (ta ha ba la : Option Addr) (tc hc bc lc : Nat) (hp : PbOk p) (hsm : p.nt ≤ 5 ∧ p.nh ≤ 4) : ∀ m, AllC p ta ha ba la tc hc bc lc m := by
 intro m
 induction m with
 | zero => exact fun xs a c w h1 h2 h3 h4 h5 => all_step p ta ha ba la tc hc bc lc 0 hp hsm (fun k e => by cases e) xs a c w h1 h2 h3 h4 h5
 | succ m ih => exact fun xs a c w h1 h2 h3 h4 h5 => all_step p ta ha ba la tc hc bc lc (m + 1) hp hsm (fun k e => by cases e; exact ih) xs a c w h1 h2 h3 h4 h5
end
section
open Go.RowKit

set_option maxRecDepth 100000 in
set_option maxHeartbeats 2000000 in
theorem first2_any (p : Pb) (ta ha ba la : Option Addr) (tc hc bc lc : Nat) (hp : PbOk p) (hsm : p.nt ≤ 5 ∧ p.nh ≤ 4) (w : World) (hP : PbAt w p ta ha ba la tc hc bc lc) :
  Calls Try.prog 66 #[.agg #[.slice ta p.nt tc, .slice ha p.nh hc, .slice ba p.nb bc, .slice la p.nl lc]] w fun e w' => ∃ a c, e = .returned (.tuple #[.slice a (firR p).1.length c, Vi (firR p).2.1, .bool (firR p).2.2]) ∧ Ints w' a (firR p).1.length (firR p).1 ∧ Gr w w' := by
 have G := Gr.refl w
 have hpt := hP.t
 have hph := hP.h
 have hpb := hP.b
 have hpl := hP.l
 have hplen := hP.len
 obtain ⟨hn1, hn2, hn3, hn4⟩ := hplen
 have hcp1 := hpt.cap
 have hcp2 := hph.cap
 have hcp3 := hpb.cap
 have hcp4 := hpl.cap
 refine Y.calls 43 Try.func66 rfl rfl ?_
 intro ac F0
 have F : Fr ac 43 [(0, .agg #[.slice ta p.nt tc, .slice ha p.nh hc, .slice ba p.nb bc, .slice la p.nl lc])] := F0.sub _
 clear F0
 refine Y.seq ?_
 refine Y.lit (by kernel_rfl) ?_
 have hgs3 : w.heap.size ≤ w.heap.size := G.size
 refine Y.pv F (X.box rfl (F.ev 0 (.agg #[.slice ta p.nt tc, .slice ha p.nh hc, .slice ba p.nb bc, .slice la p.nl lc])) X.bx) ?_;clear F ac;intro ac F
 have hgs5 : w.heap.size ≤ w.heap.size := G.size
 have g := Gr.alloc w (.cells #[.slice ta p.nt tc, .slice ha p.nh hc, .slice ba p.nb bc, .slice la p.nl lc] 27)
 have hb := heap_alloc_new w (.cells #[.slice ta p.nt tc, .slice ha p.nh hc, .slice ba p.nb bc, .slice la p.nl lc] 27)
 have hbl : w.heap.size < (w.alloc (.cells #[.slice ta p.nt tc, .slice ha p.nh hc, .slice ba p.nb bc, .slice la p.nl lc] 27)).heap.size := by simp
 have hC2 : RCells (w.alloc (.cells #[.slice ta p.nt tc, .slice ha p.nh hc, .slice ba p.nb bc, .slice la p.nl lc] 27)) [(Ad w.heap.size 0, .slice ta p.nt tc), (Ad w.heap.size 1, .slice ha p.nh hc), (Ad w.heap.size 2, .slice ba p.nb bc), (Ad w.heap.size 3, .slice la p.nl lc)] := (RCells.nil w).box (b := w.heap.size) #[.slice ta p.nt tc, .slice ha p.nh hc, .slice ba p.nb bc, .slice la p.nl lc] 27 rfl
 generalize w.alloc (.cells #[.slice ta p.nt tc, .slice ha p.nh hc, .slice ba p.nb bc, .slice la p.nl lc] 27) = w6 at *
 replace G := G.trans g
 have hC := hC2
 clear hC2
 replace hpt := hpt.gr g
 replace hph := hph.gr g
 replace hpb := hpb.gr g
 replace hpl := hpl.gr g
 have hsz4 := hbl
 clear g hb hbl
 refine Y.pv F (X.assign rfl (X.kc (.slice none 0 0) rfl)) ?_;clear F ac;intro ac F
 refine Y.pv F (X.assign rfl (X.kc (Vi 0) rfl)) ?_;clear F ac;intro ac F
 refine Y.pv F (X.assign rfl (X.kc (.bool false) rfl)) ?_;clear F ac;intro ac F
 refine Y.nil ?_
 replace F : Fr ac 43 [(1, Vp w.heap.size)] := F.sub _
 refine X.thenN ?_
 refine Y.seq ?_
 refine Y.lit (by kernel_rfl) ?_
 refine Y.pv F (X.load rfl (F.ev 1 (Vp w.heap.size)) (X.ldN (Try.agg27 _) (Try.siz27 _) (Y.atz (⟨w.heap.size, 0, none⟩) (Y.AtFrom.cons (hC.at 0 rfl) (Y.AtFrom.cons (hC.at 1 rfl) (Y.AtFrom.cons (hC.at 2 rfl) (Y.AtFrom.cons (hC.at 3 rfl) (Y.AtFrom.nil _ _ _)))))))) ?_;clear F ac;intro ac F
 refine Y.pcall F (X.w0 rfl) rfl (X.enter (F := 68) rfl (X.kc (.func (.func 68) #[] #[]) rfl) (X.a2 (F.ev 8 (.agg #[.slice ta p.nt tc, .slice ha p.nh hc, .slice ba p.nb bc, .slice la p.nl lc])) (X.kc (.slice none 0 0) rfl)) (enters_of Try.func68 (by kernel_rfl) rfl _)) (all_any p ta ha ba la tc hc bc lc hp hsm p.nt [] none 0 w6 (hP.gr G) (by simp) HosOk.nil (Ints.nilZ _) (fun ad e => by cases e)) ?_
 clear F ac
 rintro e w7 ⟨v, E, rfl, hRw, hmap, -, g⟩
 obtain ⟨oa, oc, rfl⟩ := hRw.form
 refine ⟨_, rfl, ?_⟩
 intro ac F
 replace G := G.trans g
 replace hC := hC.gr g
 replace hpt := hpt.gr g
 replace hph := hph.gr g
 replace hpb := hpb.gr g
 replace hpl := hpl.gr g
 clear g
 have hmE : ∀ x ∈ E, HosOk p x.xs ∧ x.xs.length = p.nt := fun x hx => by
  have h1 := mem_allP (p := p) (x := x.xs) (by show _ ∈ allF _ _ _ _; rw [← hmap]; exact List.mem_map_of_mem hx)
  exact ⟨h1.1, h1.2.1⟩
 have hEl : E.length ≤ 1024 := by
  have h1 := congrArg List.length hmap
  rw [List.length_map] at h1
  have h2 := allF_len (hope := hopeB p (tim p)) hsm.2 p.nt []
  have h3 := pow_le hsm.1
  omega
 refine Y.pv F (X.assign rfl (F.ev 9 (.slice oa E.length oc))) ?_;clear F ac;intro ac F
 refine Y.nil ?_
 replace F : Fr ac 43 [(1, Vp w.heap.size), (5, .slice oa E.length oc)] := F.sub _
 refine X.thenN ?_
 refine Y.seq ?_
 refine Y.seq ?_
 refine Y.lit (by kernel_rfl) ?_
 refine Y.pv F (X.move rfl (F.ev 5 (.slice oa E.length oc))) ?_;clear F ac;intro ac F
 refine Y.pv F (X.len1 Try.underlying38 rfl (F.ev 10 (.slice oa E.length oc))) ?_;clear F ac;intro ac F
 refine Y.pv F (X.binop rfl (F.ev 11 (Vi E.length)) (X.kc (Vi 0) rfl) (X.eqlI Try.underlying3 rfl)) ?_;clear F ac;intro ac F
 refine Y.nil ?_
 replace F : Fr ac 43 [(1, Vp w.heap.size), (5, .slice oa E.length oc), (12, .bool ((E.length : Int) == 0))] := F.sub _
 refine X.thenN ?_
 cases h8 : ((E.length : Int) == 0) with
 | false =>
  try rw [h8] at F
  have h8p : ¬ (E.length : Int) = 0 := by simpa using h8
  have hE0 : 0 < E.length := by omega
  obtain ⟨g7, rfl, -, -⟩ := hRw.ex hE0
  refine Y.condF (F.ev 12 (.bool false)) ?_
  refine Y.skip ?_
  refine X.thenN ?_
  refine Y.seq ?_
  refine Y.lit (by kernel_rfl) ?_
  refine Y.pv F (X.assign rfl (X.kc (Vi 0) rfl)) ?_;clear F ac;intro ac F
  refine Y.nil ?_
  replace F : Fr ac 43 [(1, Vp w.heap.size), (5, .slice (some ⟨g7, 0, none⟩) E.length oc), (6, Vi 0)] := F.sub _
  refine X.thenN ?_
  refine Y.seq ?_
  refine Y.seq ?_
  refine Y.lit (by kernel_rfl) ?_
  refine Y.pv F (X.assign rfl (X.kc (Vi 0) rfl)) ?_;clear F ac;intro ac F
  refine Y.nil ?_
  replace F : Fr ac 43 [(1, Vp w.heap.size), (5, .slice (some ⟨g7, 0, none⟩) E.length oc), (6, Vi 0), (7, Vi 0)] := F.sub _
  refine X.thenN ?_
  refine Y.block ?_
  refine Y.loop (fun me_ ac wr => ∃ (b i : Nat), me_ = E.length - i ∧ Only (fun b => False) w7 wr ∧ i ≤ E.length ∧ b < E.length ∧ hdC p E i b ∧ Fr ac 43 [(1, Vp w.heap.size), (5, .slice (some ⟨g7, 0, none⟩) E.length oc), (6, Vi b), (7, Vi i)]) _ ⟨0, 0, rfl, Only.refl _ _, Nat.zero_le _, hE0, .inl ⟨rfl, rfl⟩, F.sub _⟩ ?_
  have hptB1 := hpt
  have hphB1 := hph
  have hpbB1 := hpb
  have hplB1 := hpl
  have hRwB1 := hRw
  have GB1 := G
  have hCB1 := hC
  clear F ac
  intro me_ ac w9 hI
  obtain ⟨b, i, rfl, hO1, hi, hb, hhd, F⟩ := hI
  replace G := GB1.trans (hO1.gr (fun _ _ h => h))
  replace hpt := (hP.t).gr G
  replace hph := (hP.h).gr G
  replace hpb := (hP.b).gr G
  replace hpl := (hP.l).gr G
  replace hRw := hRwB1.gr (hO1.gr (fun _ _ h => h))
  replace hC := (RCells.cons (hO1.cell (hCB1.at 0 rfl) (fun h => h)) (RCells.cons (hO1.cell (hCB1.at 1 rfl) (fun h => h)) (RCells.cons (hO1.cell (hCB1.at 2 rfl) (fun h => h)) (RCells.cons (hO1.cell (hCB1.at 3 rfl) (fun h => h)) (RCells.nil _)))))
  refine Y.seq ?_
  refine Y.seq ?_
  refine Y.lit (by kernel_rfl) ?_
  refine Y.pv F (X.move rfl (F.ev 7 (Vi i))) ?_;clear F ac;intro ac F
  refine Y.pv F (X.move rfl (F.ev 5 (.slice (some ⟨g7, 0, none⟩) E.length oc))) ?_;clear F ac;intro ac F
  refine Y.pv F (X.len1 Try.underlying38 rfl (F.ev 14 (.slice (some ⟨g7, 0, none⟩) E.length oc))) ?_;clear F ac;intro ac F
  refine Y.pv F (X.binop rfl (F.ev 13 (Vi i)) (F.ev 15 (Vi E.length)) (X.lssI Try.underlying3 rfl)) ?_;clear F ac;intro ac F
  refine Y.nil ?_
  replace F : Fr ac 43 [(1, Vp w.heap.size), (5, .slice (some ⟨g7, 0, none⟩) E.length oc), (6, Vi b), (7, Vi i), (16, .bool (decide ((i : Int) < E.length)))] := F.sub _
  refine X.thenN ?_
  cases h10 : decide ((i : Int) < E.length) with
  | false =>
   try rw [h10] at F
   have h10p : ¬ ((i : Int) < E.length) := of_decide_eq_false h10
   obtain rfl : i = E.length := by omega
   obtain ⟨xb, hxb⟩ : ∃ x, E[b]? = some x := ⟨_, List.getElem?_eq_getElem (by omega)⟩
   have hIxb := hRw.i xb (List.mem_of_getElem? hxb)
   have hmxb := hmE xb (List.mem_of_getElem? hxb)
   replace hC : RCells w9 [(Ad w.heap.size 0, .slice ta p.nt tc), (Ad w.heap.size 1, .slice ha p.nh hc), (Ad w.heap.size 2, .slice ba p.nb bc), (Ad w.heap.size 3, .slice la p.nl lc), (⟨g7, b, none⟩, .slice xb.a xb.xs.length xb.c)] := hC.append ((RCells.cons (hRw.cell hxb) (RCells.nil _)))
   refine Y.condF (F.ev 16 (.bool false)) ?_
   refine Y.exit ?_
   refine X.thenX ?_
   refine X.thenX ?_
   refine X.blockX ?_
   refine X.thenN ?_
   refine Y.seq ?_
   refine Y.region F [some (.slice (some ⟨g7, 0, none⟩) E.length oc), some (Vi b), some (.pointer (some ⟨g7, b, none⟩)), some (.slice xb.a xb.xs.length xb.c), some (.agg #[.slice ta p.nt tc, .slice ha p.nh hc, .slice ba p.nb bc, .slice la p.nl lc]), some (.slice (some ⟨g7, 0, none⟩) E.length oc), some (Vi b), some (.pointer (some ⟨g7, b, none⟩)), some (.slice xb.a xb.xs.length xb.c), some (Vi (bndV p xb.xs)), some (.slice xb.a xb.xs.length xb.c), some (Vi (bndV p xb.xs)), some (.bool true)] [] rfl ⟨by kernel_rfl, of_decide_eq_true (by kernel_rfl), by kernel_rfl, by kernel_rfl, by kernel_rfl⟩ ⟨?_, ?_, ?_, ?_, ?_, ?_, ?_, ?_, ?_, ?_, ?_, ?_, ?_, trivial⟩ ?_
   ·intro ac done u W Sx hR
    exact X.vl (X.move rfl (Sx.ev 5 (.slice (some ⟨g7, 0, none⟩) E.length oc))) hR.st0
   ·intro ac done u W Sx hR
    exact X.vl (X.move rfl (Sx.ev 6 (Vi b))) hR.st0
   ·intro ac done u W Sx hR
    exact X.val (X.w0 rfl) rfl (X.index rfl (Sx.ev 33 (.slice (some ⟨g7, 0, none⟩) E.length oc)) (Sx.ev 34 (Vi b)) (X.idx (k := b) Try.underlying38 (Try.siz34 _) (by omega) (by omega) ((addr_add0 _ _).trans (by rw [Nat.mul_one])))) hR.st0
   ·intro ac done u W Sx hR
    have g : Gr w9 W := hR.1
    exact X.vl (X.load rfl (Sx.ev 35 (.pointer (some ⟨g7, b, none⟩))) (X.ld1 (Try.agg34 _) ((hC.gr g).at 4 rfl))) hR.st0
   ·intro ac done u W Sx hR
    have g : Gr w9 W := hR.1
    exact X.vl (X.load rfl (Sx.ev 1 (Vp w.heap.size)) (X.ldN (Try.agg27 _) (Try.siz27 _) (Y.atz (⟨w.heap.size, 0, none⟩) (Y.AtFrom.cons ((hC.gr g).at 0 rfl) (Y.AtFrom.cons ((hC.gr g).at 1 rfl) (Y.AtFrom.cons ((hC.gr g).at 2 rfl) (Y.AtFrom.cons ((hC.gr g).at 3 rfl) (Y.AtFrom.nil _ _ _)))))))) hR.st0
   ·intro ac done u W Sx hR
    exact X.vl (X.move rfl (Sx.ev 5 (.slice (some ⟨g7, 0, none⟩) E.length oc))) hR.st0
   ·intro ac done u W Sx hR
    exact X.vl (X.move rfl (Sx.ev 6 (Vi b))) hR.st0
   ·intro ac done u W Sx hR
    exact X.val (X.w0 rfl) rfl (X.index rfl (Sx.ev 38 (.slice (some ⟨g7, 0, none⟩) E.length oc)) (Sx.ev 39 (Vi b)) (X.idx (k := b) Try.underlying38 (Try.siz34 _) (by omega) (by omega) ((addr_add0 _ _).trans (by rw [Nat.mul_one])))) hR.st0
   ·intro ac done u W Sx hR
    have g : Gr w9 W := hR.1
    exact X.vl (X.load rfl (Sx.ev 40 (.pointer (some ⟨g7, b, none⟩))) (X.ld1 (Try.agg34 _) ((hC.gr g).at 4 rfl))) hR.st0
   ·intro ac done u W Sx hR
    have g : Gr w9 W := hR.1
    refine X.call (X.w0 rfl) (X.enter (F := 77) rfl (X.kc (.func (.func 77) #[] #[]) rfl) (X.a2 (Sx.ev 37 (.agg #[.slice ta p.nt tc, .slice ha p.nh hc, .slice ba p.nb bc, .slice la p.nl lc])) (Sx.ev 41 (.slice xb.a xb.xs.length xb.c))) (enters_of Try.func77 (by kernel_rfl) rfl _)) (bnd2_any p ta ha ba la tc hc bc lc xb.a xb.c xb.xs W (hP.gr (G.trans g)) (hIxb.gr g) hp hmxb.1 (Nat.le_of_eq hmxb.2)) ?_
    rintro e W2 ⟨rfl, g2⟩
    exact ⟨_, rfl, X.kn rfl, hR.step g2 rfl⟩
   ·intro ac done u W Sx hR
    exact X.vl (X.assign rfl (Sx.ev 36 (.slice xb.a xb.xs.length xb.c))) hR.st0
   ·intro ac done u W Sx hR
    exact X.vl (X.assign rfl (Sx.ev 42 (Vi (bndV p xb.xs)))) hR.st0
   ·intro ac done u W Sx hR
    exact X.vl (X.assign rfl (X.kc (.bool true) rfl)) hR.st0
   intro ac u w11 hs hd hl ho hR
   have g : Gr w9 w11 := hR.1
   replace F : Fr ac 43 [(2, .slice xb.a xb.xs.length xb.c), (3, Vi (bndV p xb.xs)), (4, .bool true)] := X.fr hs hd hl _ (by kernel_rfl)
   clear hs hd hl ho hR
   replace G := G.trans g
   replace hC := hC.gr g
   replace hpt := hpt.gr g
   replace hph := hph.gr g
   replace hpb := hpb.gr g
   replace hpl := hpl.gr g
   replace hRw := hRw.gr g
   replace hIxb := hIxb.gr g
   clear g
   refine X.thenN ?_
   refine Y.ret ?_
   have hf := fir_1 (p := p) hmap (hd_end hhd hE0 hxb)
   exact Y.ret0 (v := .tuple #[.slice xb.a xb.xs.length xb.c, Vi (bndV p xb.xs), .bool true]) F (Y.rs3 F rfl (by kernel_rfl) (by kernel_rfl) (by kernel_rfl)) ⟨xb.a, xb.c, by rw [hf], by rw [hf]; exact hIxb, G⟩
  | true =>
   try rw [h10] at F
   have h10p : ((i : Int) < E.length) := of_decide_eq_true h10
   obtain ⟨xi, hxi⟩ : ∃ x, E[i]? = some x := ⟨_, List.getElem?_eq_getElem (by omega)⟩
   have hIxi := hRw.i xi (List.mem_of_getElem? hxi)
   have hmxi := hmE xi (List.mem_of_getElem? hxi)
   replace hC : RCells w9 [(Ad w.heap.size 0, .slice ta p.nt tc), (Ad w.heap.size 1, .slice ha p.nh hc), (Ad w.heap.size 2, .slice ba p.nb bc), (Ad w.heap.size 3, .slice la p.nl lc), (⟨g7, i, none⟩, .slice xi.a xi.xs.length xi.c)] := hC.append ((RCells.cons (hRw.cell hxi) (RCells.nil _)))
   obtain ⟨xb, hxb⟩ : ∃ x, E[b]? = some x := ⟨_, List.getElem?_eq_getElem (by omega)⟩
   have hIxb := hRw.i xb (List.mem_of_getElem? hxb)
   have hmxb := hmE xb (List.mem_of_getElem? hxb)
   replace hC : RCells w9 [(Ad w.heap.size 0, .slice ta p.nt tc), (Ad w.heap.size 1, .slice ha p.nh hc), (Ad w.heap.size 2, .slice ba p.nb bc), (Ad w.heap.size 3, .slice la p.nl lc), (⟨g7, i, none⟩, .slice xi.a xi.xs.length xi.c), (⟨g7, b, none⟩, .slice xb.a xb.xs.length xb.c)] := hC.append ((RCells.cons (hRw.cell hxb) (RCells.nil _)))
   refine Y.condT (F.ev 16 (.bool true)) ?_
   refine Y.skip ?_
   refine X.thenN ?_
   refine Y.seq ?_
   refine Y.block ?_
   refine Y.seq ?_
   refine Y.region F [some (.agg #[.slice ta p.nt tc, .slice ha p.nh hc, .slice ba p.nb bc, .slice la p.nl lc]), some (.slice (some ⟨g7, 0, none⟩) E.length oc), some (Vi i), some (.pointer (some ⟨g7, i, none⟩)), some (.slice xi.a xi.xs.length xi.c), some (Vi (bndV p xi.xs)), some (.agg #[.slice ta p.nt tc, .slice ha p.nh hc, .slice ba p.nb bc, .slice la p.nl lc]), some (.slice (some ⟨g7, 0, none⟩) E.length oc), some (Vi b), some (.pointer (some ⟨g7, b, none⟩)), some (.slice xb.a xb.xs.length xb.c), some (Vi (bndV p xb.xs)), some (.bool (decide ((bndV p xi.xs : Int) < (bndV p xb.xs))))] [] rfl ⟨by kernel_rfl, of_decide_eq_true (by kernel_rfl), by kernel_rfl, by kernel_rfl, by kernel_rfl⟩ ⟨?_, ?_, ?_, ?_, ?_, ?_, ?_, ?_, ?_, ?_, ?_, ?_, ?_, trivial⟩ ?_
   ·intro ac done u W Sx hR
    have g : Gr w9 W := hR.1
    exact X.vl (X.load rfl (Sx.ev 1 (Vp w.heap.size)) (X.ldN (Try.agg27 _) (Try.siz27 _) (Y.atz (⟨w.heap.size, 0, none⟩) (Y.AtFrom.cons ((hC.gr g).at 0 rfl) (Y.AtFrom.cons ((hC.gr g).at 1 rfl) (Y.AtFrom.cons ((hC.gr g).at 2 rfl) (Y.AtFrom.cons ((hC.gr g).at 3 rfl) (Y.AtFrom.nil _ _ _)))))))) hR.st0
   ·intro ac done u W Sx hR
    exact X.vl (X.move rfl (Sx.ev 5 (.slice (some ⟨g7, 0, none⟩) E.length oc))) hR.st0
   ·intro ac done u W Sx hR
    exact X.vl (X.move rfl (Sx.ev 7 (Vi i))) hR.st0
   ·intro ac done u W Sx hR
    exact X.val (X.w0 rfl) rfl (X.index rfl (Sx.ev 20 (.slice (some ⟨g7, 0, none⟩) E.length oc)) (Sx.ev 21 (Vi i)) (X.idx (k := i) Try.underlying38 (Try.siz34 _) (by omega) (by omega) ((addr_add0 _ _).trans (by rw [Nat.mul_one])))) hR.st0
   ·intro ac done u W Sx hR
    have g : Gr w9 W := hR.1
    exact X.vl (X.load rfl (Sx.ev 22 (.pointer (some ⟨g7, i, none⟩))) (X.ld1 (Try.agg34 _) ((hC.gr g).at 4 rfl))) hR.st0
   ·intro ac done u W Sx hR
    have g : Gr w9 W := hR.1
    refine X.call (X.w0 rfl) (X.enter (F := 77) rfl (X.kc (.func (.func 77) #[] #[]) rfl) (X.a2 (Sx.ev 19 (.agg #[.slice ta p.nt tc, .slice ha p.nh hc, .slice ba p.nb bc, .slice la p.nl lc])) (Sx.ev 23 (.slice xi.a xi.xs.length xi.c))) (enters_of Try.func77 (by kernel_rfl) rfl _)) (bnd2_any p ta ha ba la tc hc bc lc xi.a xi.c xi.xs W (hP.gr (G.trans g)) (hIxi.gr g) hp hmxi.1 (Nat.le_of_eq hmxi.2)) ?_
    rintro e W2 ⟨rfl, g2⟩
    exact ⟨_, rfl, X.kn rfl, hR.step g2 rfl⟩
   ·intro ac done u W Sx hR
    have g : Gr w9 W := hR.1
    exact X.vl (X.load rfl (Sx.ev 1 (Vp w.heap.size)) (X.ldN (Try.agg27 _) (Try.siz27 _) (Y.atz (⟨w.heap.size, 0, none⟩) (Y.AtFrom.cons ((hC.gr g).at 0 rfl) (Y.AtFrom.cons ((hC.gr g).at 1 rfl) (Y.AtFrom.cons ((hC.gr g).at 2 rfl) (Y.AtFrom.cons ((hC.gr g).at 3 rfl) (Y.AtFrom.nil _ _ _)))))))) hR.st0
   ·intro ac done u W Sx hR
    exact X.vl (X.move rfl (Sx.ev 5 (.slice (some ⟨g7, 0, none⟩) E.length oc))) hR.st0
   ·intro ac done u W Sx hR
    exact X.vl (X.move rfl (Sx.ev 6 (Vi b))) hR.st0
   ·intro ac done u W Sx hR
    exact X.val (X.w0 rfl) rfl (X.index rfl (Sx.ev 26 (.slice (some ⟨g7, 0, none⟩) E.length oc)) (Sx.ev 27 (Vi b)) (X.idx (k := b) Try.underlying38 (Try.siz34 _) (by omega) (by omega) ((addr_add0 _ _).trans (by rw [Nat.mul_one])))) hR.st0
   ·intro ac done u W Sx hR
    have g : Gr w9 W := hR.1
    exact X.vl (X.load rfl (Sx.ev 28 (.pointer (some ⟨g7, b, none⟩))) (X.ld1 (Try.agg34 _) ((hC.gr g).at 5 rfl))) hR.st0
   ·intro ac done u W Sx hR
    have g : Gr w9 W := hR.1
    refine X.call (X.w0 rfl) (X.enter (F := 77) rfl (X.kc (.func (.func 77) #[] #[]) rfl) (X.a2 (Sx.ev 25 (.agg #[.slice ta p.nt tc, .slice ha p.nh hc, .slice ba p.nb bc, .slice la p.nl lc])) (Sx.ev 29 (.slice xb.a xb.xs.length xb.c))) (enters_of Try.func77 (by kernel_rfl) rfl _)) (bnd2_any p ta ha ba la tc hc bc lc xb.a xb.c xb.xs W (hP.gr (G.trans g)) (hIxb.gr g) hp hmxb.1 (Nat.le_of_eq hmxb.2)) ?_
    rintro e W2 ⟨rfl, g2⟩
    exact ⟨_, rfl, X.kn rfl, hR.step g2 rfl⟩
   ·intro ac done u W Sx hR
    exact X.vl (X.binop rfl (Sx.ev 24 (Vi (bndV p xi.xs))) (Sx.ev 30 (Vi (bndV p xb.xs))) (X.lssI Try.underlying3 rfl)) hR.st0
   intro ac u w12 hs hd hl ho hR
   have g : Gr w9 w12 := hR.1
   replace F : Fr ac 43 [(1, Vp w.heap.size), (5, .slice (some ⟨g7, 0, none⟩) E.length oc), (6, Vi b), (7, Vi i), (31, .bool (decide ((bndV p xi.xs : Int) < (bndV p xb.xs))))] := X.fr hs hd hl _ (by kernel_rfl)
   clear hs hd hl ho hR
   replace G := G.trans g
   replace hC := hC.gr g
   replace hO1 := hO1.thenGr g
   replace hpt := hpt.gr g
   replace hph := hph.gr g
   replace hpb := hpb.gr g
   replace hpl := hpl.gr g
   replace hRw := hRw.gr g
   replace hIxi := hIxi.gr g
   replace hIxb := hIxb.gr g
   clear g
   refine X.thenN ?_
   cases h13 : decide ((bndV p xi.xs : Int) < (bndV p xb.xs)) with
   | false =>
    try rw [h13] at F
    have h13p : ¬ ((bndV p xi.xs : Int) < (bndV p xb.xs)) := of_decide_eq_false h13
    refine Y.condF (F.ev 31 (.bool false)) ?_
    refine Y.skip ?_
    refine X.blockN ?_
    refine X.thenN ?_
    refine Y.lit (by kernel_rfl) ?_
    refine Y.pv F (X.move rfl (F.ev 7 (Vi i))) ?_;clear F ac;intro ac F
    refine Y.pv F (X.binop rfl (F.ev 17 (Vi i)) (X.kc (Vi 1) rfl) (X.addI Try.underlying3 rfl (by omega) (by omega))) ?_;clear F ac;intro ac F
    refine Y.pv F (X.assign rfl (F.ev 18 (Vi ((i : Int) + 1)))) ?_;clear F ac;intro ac F
    refine Y.nil ?_
    replace F : Fr ac 43 [(1, Vp w.heap.size), (5, .slice (some ⟨g7, 0, none⟩) E.length oc), (6, Vi b), (7, Vi ((i : Int) + 1))] := F.sub _
    refine X.thenN ?_
    refine ⟨_, ?_, b, i + 1, rfl, hO1, by omega, by omega, hd_ge hhd hxi hxb (by omega), F.sub _⟩
    omega
   | true =>
    try rw [h13] at F
    have h13p : ((bndV p xi.xs : Int) < (bndV p xb.xs)) := of_decide_eq_true h13
    refine Y.condT (F.ev 31 (.bool true)) ?_
    refine Y.lit (by kernel_rfl) ?_
    refine Y.pv F (X.move rfl (F.ev 7 (Vi i))) ?_;clear F ac;intro ac F
    refine Y.pv F (X.assign rfl (F.ev 32 (Vi i))) ?_;clear F ac;intro ac F
    refine Y.nil ?_
    replace F : Fr ac 43 [(1, Vp w.heap.size), (5, .slice (some ⟨g7, 0, none⟩) E.length oc), (6, Vi i), (7, Vi i)] := F.sub _
    refine X.blockN ?_
    refine X.thenN ?_
    refine Y.lit (by kernel_rfl) ?_
    refine Y.pv F (X.move rfl (F.ev 7 (Vi i))) ?_;clear F ac;intro ac F
    refine Y.pv F (X.binop rfl (F.ev 17 (Vi i)) (X.kc (Vi 1) rfl) (X.addI Try.underlying3 rfl (by omega) (by omega))) ?_;clear F ac;intro ac F
    refine Y.pv F (X.assign rfl (F.ev 18 (Vi ((i : Int) + 1)))) ?_;clear F ac;intro ac F
    refine Y.nil ?_
    replace F : Fr ac 43 [(1, Vp w.heap.size), (5, .slice (some ⟨g7, 0, none⟩) E.length oc), (6, Vi i), (7, Vi ((i : Int) + 1))] := F.sub _
    refine X.thenN ?_
    refine ⟨_, ?_, i, i + 1, rfl, hO1, by omega, by omega, hd_lt hhd hxi hxb (by omega), F.sub _⟩
    omega
 | true =>
  try rw [h8] at F
  have h8p : (E.length : Int) = 0 := by simpa using h8
  have hE0 : E.length = 0 := by omega
  refine Y.condT (F.ev 12 (.bool true)) ?_
  refine Y.seq ?_
  refine Y.lit (by kernel_rfl) ?_
  refine Y.pv F (X.assign rfl (X.kc (.slice none 0 0) rfl)) ?_;clear F ac;intro ac F
  refine Y.pv F (X.assign rfl (X.kc (Vi 0) rfl)) ?_;clear F ac;intro ac F
  refine Y.pv F (X.assign rfl (X.kc (.bool false) rfl)) ?_;clear F ac;intro ac F
  refine Y.nil ?_
  replace F : Fr ac 43 [(2, .slice none 0 0), (3, Vi 0), (4, .bool false)] := F.sub _
  refine X.thenN ?_
  refine Y.ret ?_
  refine X.thenR ?_
  have hf := fir_0 (p := p) hmap hE0
  exact Y.ret0 (v := .tuple #[.slice none 0 0, Vi 0, .bool false]) F (Y.rs3 F rfl (by kernel_rfl) (by kernel_rfl) (by kernel_rfl)) ⟨none, 0, by rw [hf]; rfl, by rw [hf]; exact Ints.nilZ _, G⟩
set_option maxRecDepth 100000 in
set_option maxHeartbeats 1000000 in
theorem best2_any (p : Pb) (ta ha ba la : Option Addr) (tc hc bc lc : Nat) (hsm : chkE p = 0 → p.nt ≤ 5 ∧ p.nh ≤ 4) (w : World) (hP : PbAt w p ta ha ba la tc hc bc lc) :
  Calls Try.prog 23 #[.agg #[.slice ta p.nt tc, .slice ha p.nh hc, .slice ba p.nb bc, .slice la p.nl lc]] w fun e w' => ∃ a c, e = .returned (.tuple #[.slice a (bestR p).1.length c, Vi (bestR p).2.1, Vi (bestR p).2.2]) ∧ Ints w' a (bestR p).1.length (bestR p).1 ∧ Gr w w' := by
 have G := Gr.refl w
 have hpt := hP.t
 have hph := hP.h
 have hpb := hP.b
 have hpl := hP.l
 have hplen := hP.len
 obtain ⟨hn1, hn2, hn3, hn4⟩ := hplen
 have hcp1 := hpt.cap
 have hcp2 := hph.cap
 have hcp3 := hpb.cap
 have hcp4 := hpl.cap
 refine Y.calls 24 Try.func23 rfl rfl ?_
 intro ac F0
 have F : Fr ac 24 [(0, .agg #[.slice ta p.nt tc, .slice ha p.nh hc, .slice ba p.nb bc, .slice la p.nl lc])] := F0.sub _
 clear F0
 refine Y.seq ?_
 refine Y.lit (by kernel_rfl) ?_
 have hgs3 : w.heap.size ≤ w.heap.size := G.size
 refine Y.pv F (X.box rfl (F.ev 0 (.agg #[.slice ta p.nt tc, .slice ha p.nh hc, .slice ba p.nb bc, .slice la p.nl lc])) X.bx) ?_;clear F ac;intro ac F
 have hgs5 : w.heap.size ≤ w.heap.size := G.size
 have g := Gr.alloc w (.cells #[.slice ta p.nt tc, .slice ha p.nh hc, .slice ba p.nb bc, .slice la p.nl lc] 27)
 have hb := heap_alloc_new w (.cells #[.slice ta p.nt tc, .slice ha p.nh hc, .slice ba p.nb bc, .slice la p.nl lc] 27)
 have hbl : w.heap.size < (w.alloc (.cells #[.slice ta p.nt tc, .slice ha p.nh hc, .slice ba p.nb bc, .slice la p.nl lc] 27)).heap.size := by simp
 have hC2 : RCells (w.alloc (.cells #[.slice ta p.nt tc, .slice ha p.nh hc, .slice ba p.nb bc, .slice la p.nl lc] 27)) [(Ad w.heap.size 0, .slice ta p.nt tc), (Ad w.heap.size 1, .slice ha p.nh hc), (Ad w.heap.size 2, .slice ba p.nb bc), (Ad w.heap.size 3, .slice la p.nl lc)] := (RCells.nil w).box (b := w.heap.size) #[.slice ta p.nt tc, .slice ha p.nh hc, .slice ba p.nb bc, .slice la p.nl lc] 27 rfl
 generalize w.alloc (.cells #[.slice ta p.nt tc, .slice ha p.nh hc, .slice ba p.nb bc, .slice la p.nl lc] 27) = w6 at *
 replace G := G.trans g
 have hC := hC2
 clear hC2
 replace hpt := hpt.gr g
 replace hph := hph.gr g
 replace hpb := hpb.gr g
 replace hpl := hpl.gr g
 have hsz4 := hbl
 clear g hb hbl
 refine Y.pv F (X.assign rfl (X.kc (.slice none 0 0) rfl)) ?_;clear F ac;intro ac F
 refine Y.pv F (X.assign rfl (X.kc (Vi 0) rfl)) ?_;clear F ac;intro ac F
 refine Y.pv F (X.assign rfl (X.kc (Vi 0) rfl)) ?_;clear F ac;intro ac F
 refine Y.nil ?_
 replace F : Fr ac 24 [(1, Vp w.heap.size)] := F.sub _
 refine X.thenN ?_
 refine Y.seq ?_
 refine Y.lit (by kernel_rfl) ?_
 refine Y.pv F (X.load rfl (F.ev 1 (Vp w.heap.size)) (X.ldN (Try.agg27 _) (Try.siz27 _) (Y.atz (⟨w.heap.size, 0, none⟩) (Y.AtFrom.cons (hC.at 0 rfl) (Y.AtFrom.cons (hC.at 1 rfl) (Y.AtFrom.cons (hC.at 2 rfl) (Y.AtFrom.cons (hC.at 3 rfl) (Y.AtFrom.nil _ _ _)))))))) ?_;clear F ac;intro ac F
 refine Y.pcall F (X.w0 rfl) rfl (X.enter (F := 19) rfl (X.kc (.func (.func 19) #[] #[]) rfl) (X.a1 (F.ev 9 (.agg #[.slice ta p.nt tc, .slice ha p.nh hc, .slice ba p.nb bc, .slice la p.nl lc]))) (enters_of Try.func19 (by kernel_rfl) rfl _)) (check2_any p ta ha ba la tc hc bc lc w6 (hP.gr G)) ?_
 clear F ac
 rintro e w7 ⟨rfl, g⟩
 refine ⟨_, rfl, ?_⟩
 intro ac F
 replace G := G.trans g
 replace hC := hC.gr g
 replace hpt := hpt.gr g
 replace hph := hph.gr g
 replace hpb := hpb.gr g
 replace hpl := hpl.gr g
 clear g
 refine Y.pv F (X.assign rfl (F.ev 10 (Vi (chkE p)))) ?_;clear F ac;intro ac F
 refine Y.nil ?_
 replace F : Fr ac 24 [(1, Vp w.heap.size), (5, Vi (chkE p))] := F.sub _
 refine X.thenN ?_
 refine Y.seq ?_
 refine Y.seq ?_
 refine Y.lit (by kernel_rfl) ?_
 refine Y.pv F (X.move rfl (F.ev 5 (Vi (chkE p)))) ?_;clear F ac;intro ac F
 refine Y.pv F (X.binop rfl (F.ev 11 (Vi (chkE p))) (X.kc (Vi 0) rfl) (X.neqI Try.underlying31 rfl)) ?_;clear F ac;intro ac F
 refine Y.nil ?_
 replace F : Fr ac 24 [(1, Vp w.heap.size), (5, Vi (chkE p)), (12, .bool ((chkE p : Int) != 0))] := F.sub _
 refine X.thenN ?_
 cases h8 : ((chkE p : Int) != 0) with
 | false =>
  try rw [h8] at F
  have h8p : (chkE p : Int) = 0 := by simpa using h8
  have hck : chkE p = 0 := by omega
  have hp := chk_ok hck
  refine Y.condF (F.ev 12 (.bool false)) ?_
  refine Y.skip ?_
  refine X.thenN ?_
  refine Y.seq ?_
  refine Y.lit (by kernel_rfl) ?_
  refine Y.pv F (X.load rfl (F.ev 1 (Vp w.heap.size)) (X.ldN (Try.agg27 _) (Try.siz27 _) (Y.atz (⟨w.heap.size, 0, none⟩) (Y.AtFrom.cons (hC.at 0 rfl) (Y.AtFrom.cons (hC.at 1 rfl) (Y.AtFrom.cons (hC.at 2 rfl) (Y.AtFrom.cons (hC.at 3 rfl) (Y.AtFrom.nil _ _ _)))))))) ?_;clear F ac;intro ac F
  refine Y.pcall F (X.w0 rfl) rfl (X.enter (F := 66) rfl (X.kc (.func (.func 66) #[] #[]) rfl) (X.a1 (F.ev 15 (.agg #[.slice ta p.nt tc, .slice ha p.nh hc, .slice ba p.nb bc, .slice la p.nl lc]))) (enters_of Try.func66 (by kernel_rfl) rfl _)) (first2_any p ta ha ba la tc hc bc lc hp (hsm hck) w7 (hP.gr G)) ?_
  clear F ac
  rintro e w9 ⟨fa, fc, rfl, hIf, g⟩
  refine ⟨_, rfl, ?_⟩
  intro ac F
  replace G := G.trans g
  replace hC := hC.gr g
  replace hpt := hpt.gr g
  replace hph := hph.gr g
  replace hpb := hpb.gr g
  replace hpl := hpl.gr g
  clear g
  refine Y.pv F (X.move rfl (F.ev 16 (.tuple #[.slice fa ((firR p).1.length) fc, Vi ((firR p).2.1), .bool ((firR p).2.2)]))) ?_;clear F ac;intro ac F
  refine Y.pv F (X.extract rfl (F.ev 14 (.tuple #[.slice fa ((firR p).1.length) fc, Vi ((firR p).2.1), .bool ((firR p).2.2)])) rfl) ?_;clear F ac;intro ac F
  refine Y.pv F (X.extract rfl (F.ev 14 (.tuple #[.slice fa ((firR p).1.length) fc, Vi ((firR p).2.1), .bool ((firR p).2.2)])) rfl) ?_;clear F ac;intro ac F
  refine Y.pv F (X.extract rfl (F.ev 14 (.tuple #[.slice fa ((firR p).1.length) fc, Vi ((firR p).2.1), .bool ((firR p).2.2)])) rfl) ?_;clear F ac;intro ac F
  refine Y.pv F (X.assign rfl (F.ev 17 (.slice fa ((firR p).1.length) fc))) ?_;clear F ac;intro ac F
  refine Y.pv F (X.assign rfl (F.ev 18 (Vi ((firR p).2.1)))) ?_;clear F ac;intro ac F
  refine Y.pv F (X.assign rfl (F.ev 19 (.bool ((firR p).2.2)))) ?_;clear F ac;intro ac F
  refine Y.nil ?_
  replace F : Fr ac 24 [(6, .slice fa ((firR p).1.length) fc), (7, Vi ((firR p).2.1)), (8, .bool ((firR p).2.2))] := F.sub _
  refine X.thenN ?_
  refine Y.seq ?_
  refine Y.seq ?_
  refine Y.lit (by kernel_rfl) ?_
  refine Y.pv F (X.move rfl (F.ev 8 (.bool ((firR p).2.2)))) ?_;clear F ac;intro ac F
  refine Y.pv F (X.notB rfl (F.ev 20 (.bool ((firR p).2.2))) rfl) ?_;clear F ac;intro ac F
  refine Y.nil ?_
  replace F : Fr ac 24 [(6, .slice fa ((firR p).1.length) fc), (7, Vi ((firR p).2.1)), (21, .bool (!((firR p).2.2)))] := F.sub _
  refine X.thenN ?_
  cases h10 : (firR p).2.2 with
  | false =>
   try rw [h10] at F
   refine Y.condT (F.ev 21 (.bool true)) ?_
   refine Y.seq ?_
   refine Y.lit (by kernel_rfl) ?_
   refine Y.pv F (X.assign rfl (X.kc (.slice none 0 0) rfl)) ?_;clear F ac;intro ac F
   refine Y.pv F (X.assign rfl (X.kc (Vi 0) rfl)) ?_;clear F ac;intro ac F
   refine Y.pv F (X.assign rfl (X.kc (Vi 3) rfl)) ?_;clear F ac;intro ac F
   refine Y.nil ?_
   replace F : Fr ac 24 [(2, .slice none 0 0), (3, Vi 0), (4, Vi 3)] := F.sub _
   refine X.thenN ?_
   refine Y.ret ?_
   refine X.thenR ?_
   have hb := best_no hck h10
   exact Y.ret0 (v := .tuple #[.slice none 0 0, Vi 0, Vi 3]) F (Y.rs3 F rfl (by kernel_rfl) (by kernel_rfl) (by kernel_rfl)) ⟨none, 0, by rw [hb]; rfl, by rw [hb]; exact Ints.nilZ _, G⟩
  | true =>
   try rw [h10] at F
   refine Y.condF (F.ev 21 (.bool false)) ?_
   refine Y.skip ?_
   refine X.thenN ?_
   refine Y.seq ?_
   refine Y.lit (by kernel_rfl) ?_
   refine Y.pv F (X.move rfl (F.ev 6 (.slice fa ((firR p).1.length) fc))) ?_;clear F ac;intro ac F
   refine Y.pv F (X.move rfl (F.ev 7 (Vi ((firR p).2.1)))) ?_;clear F ac;intro ac F
   refine Y.pv F (X.assign rfl (F.ev 22 (.slice fa ((firR p).1.length) fc))) ?_;clear F ac;intro ac F
   refine Y.pv F (X.assign rfl (F.ev 23 (Vi ((firR p).2.1)))) ?_;clear F ac;intro ac F
   refine Y.pv F (X.assign rfl (X.kc (Vi 0) rfl)) ?_;clear F ac;intro ac F
   refine Y.nil ?_
   replace F : Fr ac 24 [(2, .slice fa ((firR p).1.length) fc), (3, Vi ((firR p).2.1)), (4, Vi 0)] := F.sub _
   refine X.thenN ?_
   refine Y.ret ?_
   have hb := best_yes hck h10
   exact Y.ret0 (v := .tuple #[.slice fa ((firR p).1.length) fc, Vi ((firR p).2.1), Vi 0]) F (Y.rs3 F rfl (by kernel_rfl) (by kernel_rfl) (by kernel_rfl)) ⟨fa, fc, by rw [hb], by rw [hb]; exact hIf, G⟩
 | true =>
  try rw [h8] at F
  have h8p : ¬ (chkE p : Int) = 0 := by simpa using h8
  refine Y.condT (F.ev 12 (.bool true)) ?_
  refine Y.seq ?_
  refine Y.lit (by kernel_rfl) ?_
  refine Y.pv F (X.move rfl (F.ev 5 (Vi (chkE p)))) ?_;clear F ac;intro ac F
  refine Y.pv F (X.assign rfl (X.kc (.slice none 0 0) rfl)) ?_;clear F ac;intro ac F
  refine Y.pv F (X.assign rfl (X.kc (Vi 0) rfl)) ?_;clear F ac;intro ac F
  refine Y.pv F (X.assign rfl (F.ev 13 (Vi (chkE p)))) ?_;clear F ac;intro ac F
  refine Y.nil ?_
  replace F : Fr ac 24 [(2, .slice none 0 0), (3, Vi 0), (4, Vi (chkE p))] := F.sub _
  refine X.thenN ?_
  refine Y.ret ?_
  refine X.thenR ?_
  have hb := best_1 (p := p) (by omega)
  exact Y.ret0 (v := .tuple #[.slice none 0 0, Vi 0, Vi (chkE p)]) F (Y.rs3 F rfl (by kernel_rfl) (by kernel_rfl) (by kernel_rfl)) ⟨none, 0, by rw [hb]; rfl, by rw [hb]; exact Ints.nilZ _, G⟩
end
section
open Go.RowKit

theorem Ints.nil0 (w : World) : Ints w none 0 [] := ⟨rfl, by decide, fun j hj => by omega⟩
set_option maxRecDepth 100000 in
set_option maxHeartbeats 2000000 in
theorem best_any (p : Pb) (ta ha ba la : Option Addr) (tc hc bc lc : Nat) (w : World) (hP : PbAt w p ta ha ba la tc hc bc lc) :
  Calls Try.prog 22 #[.agg #[.slice ta p.nt tc, .slice ha p.nh hc, .slice ba p.nb bc, .slice la p.nl lc]] w fun e w' => ∃ a c, e = .returned (.tuple #[.slice a (bestR p).1.length c, Vi (bestR p).2.1, Vi (bestR p).2.2]) ∧ Ints w' a (bestR p).1.length (bestR p).1 ∧ ((bestR p).1.length = 0 → a = none ∧ c = 0) ∧ Gr w w' := by
 have G := Gr.refl w
 have hpt := hP.t
 have hph := hP.h
 have hpb := hP.b
 have hpl := hP.l
 have hplen := hP.len
 obtain ⟨hn1, hn2, hn3, hn4⟩ := hplen
 have hcp1 := hpt.cap
 have hcp2 := hph.cap
 have hcp3 := hpb.cap
 have hcp4 := hpl.cap
 refine Y.calls 33 Try.func22 rfl rfl ?_
 intro ac F0
 have F : Fr ac 33 [(0, .agg #[.slice ta p.nt tc, .slice ha p.nh hc, .slice ba p.nb bc, .slice la p.nl lc])] := F0.sub _
 clear F0
 refine Y.seq ?_
 refine Y.lit (by kernel_rfl) ?_
 have hgs3 : w.heap.size ≤ w.heap.size := G.size
 refine Y.pv F (X.box rfl (F.ev 0 (.agg #[.slice ta p.nt tc, .slice ha p.nh hc, .slice ba p.nb bc, .slice la p.nl lc])) X.bx) ?_;clear F ac;intro ac F
 have hgs5 : w.heap.size ≤ w.heap.size := G.size
 have g := Gr.alloc w (.cells #[.slice ta p.nt tc, .slice ha p.nh hc, .slice ba p.nb bc, .slice la p.nl lc] 27)
 have hb := heap_alloc_new w (.cells #[.slice ta p.nt tc, .slice ha p.nh hc, .slice ba p.nb bc, .slice la p.nl lc] 27)
 have hbl : w.heap.size < (w.alloc (.cells #[.slice ta p.nt tc, .slice ha p.nh hc, .slice ba p.nb bc, .slice la p.nl lc] 27)).heap.size := by simp
 have hC2 : RCells (w.alloc (.cells #[.slice ta p.nt tc, .slice ha p.nh hc, .slice ba p.nb bc, .slice la p.nl lc] 27)) [(Ad w.heap.size 0, .slice ta p.nt tc), (Ad w.heap.size 1, .slice ha p.nh hc), (Ad w.heap.size 2, .slice ba p.nb bc), (Ad w.heap.size 3, .slice la p.nl lc)] := (RCells.nil w).box (b := w.heap.size) #[.slice ta p.nt tc, .slice ha p.nh hc, .slice ba p.nb bc, .slice la p.nl lc] 27 rfl
 generalize w.alloc (.cells #[.slice ta p.nt tc, .slice ha p.nh hc, .slice ba p.nb bc, .slice la p.nl lc] 27) = w6 at *
 replace G := G.trans g
 have hC := hC2
 clear hC2
 replace hpt := hpt.gr g
 replace hph := hph.gr g
 replace hpb := hpb.gr g
 replace hpl := hpl.gr g
 have hsz4 := hbl
 clear g hb hbl
 refine Y.pv F (X.assign rfl (X.kc (.slice none 0 0) rfl)) ?_;clear F ac;intro ac F
 refine Y.pv F (X.assign rfl (X.kc (Vi 0) rfl)) ?_;clear F ac;intro ac F
 refine Y.pv F (X.assign rfl (X.kc (Vi 0) rfl)) ?_;clear F ac;intro ac F
 refine Y.nil ?_
 replace F : Fr ac 33 [(1, Vp w.heap.size)] := F.sub _
 refine X.thenN ?_
 refine Y.seq ?_
 refine Y.seq ?_
 refine Y.lit (by kernel_rfl) ?_
 refine Y.pv F (X.load rfl (F.ev 1 (Vp w.heap.size)) (X.ldN (Try.agg27 _) (Try.siz27 _) (Y.atz (⟨w.heap.size, 0, none⟩) (Y.AtFrom.cons (hC.at 0 rfl) (Y.AtFrom.cons (hC.at 1 rfl) (Y.AtFrom.cons (hC.at 2 rfl) (Y.AtFrom.cons (hC.at 3 rfl) (Y.AtFrom.nil _ _ _)))))))) ?_;clear F ac;intro ac F
 refine Y.pcall F (X.w0 rfl) rfl (X.enter (F := 18) rfl (X.kc (.func (.func 18) #[] #[]) rfl) (X.a1 (F.ev 7 (.agg #[.slice ta p.nt tc, .slice ha p.nh hc, .slice ba p.nb bc, .slice la p.nl lc]))) (enters_of Try.func18 (by kernel_rfl) rfl _)) (check_any p ta ha ba la tc hc bc lc w6 (hP.gr G)) ?_
 clear F ac
 rintro e w7 ⟨rfl, g⟩
 refine ⟨_, rfl, ?_⟩
 intro ac F
 replace G := G.trans g
 replace hC := hC.gr g
 replace hpt := hpt.gr g
 replace hph := hph.gr g
 replace hpb := hpb.gr g
 replace hpl := hpl.gr g
 clear g
 refine Y.pv F (X.assign rfl (F.ev 8 (Vi (chkE p)))) ?_;clear F ac;intro ac F
 refine Y.nil ?_
 replace F : Fr ac 33 [(1, Vp w.heap.size), (5, Vi (chkE p))] := F.sub _
 refine X.thenN ?_
 refine Y.seq ?_
 refine Y.lit (by kernel_rfl) ?_
 refine Y.pv F (X.move rfl (F.ev 5 (Vi (chkE p)))) ?_;clear F ac;intro ac F
 refine Y.pv F (X.binop rfl (F.ev 9 (Vi (chkE p))) (X.kc (Vi 0) rfl) (X.neqI Try.underlying31 rfl)) ?_;clear F ac;intro ac F
 refine Y.nil ?_
 replace F : Fr ac 33 [(1, Vp w.heap.size), (5, Vi (chkE p)), (10, .bool ((chkE p : Int) != 0))] := F.sub _
 refine X.thenN ?_
 cases h8 : ((chkE p : Int) != 0) with
 | false =>
  try rw [h8] at F
  have h8p : (chkE p : Int) = 0 := by simpa using h8
  have hck : chkE p = 0 := by omega
  have hp := chk_ok hck
  refine Y.condF (F.ev 10 (.bool false)) ?_
  refine Y.skip ?_
  refine X.thenN ?_
  refine Y.seq ?_
  refine Y.lit (by kernel_rfl) ?_
  refine Y.pv F (X.load rfl (F.ev 1 (Vp w.heap.size)) (X.ldN (Try.agg27 _) (Try.siz27 _) (Y.atz (⟨w.heap.size, 0, none⟩) (Y.AtFrom.cons (hC.at 0 rfl) (Y.AtFrom.cons (hC.at 1 rfl) (Y.AtFrom.cons (hC.at 2 rfl) (Y.AtFrom.cons (hC.at 3 rfl) (Y.AtFrom.nil _ _ _)))))))) ?_;clear F ac;intro ac F
  refine Y.pcall F (X.w0 rfl) rfl (X.enter (F := 64) rfl (X.kc (.func (.func 64) #[] #[]) rfl) (X.a3 (F.ev 12 (.agg #[.slice ta p.nt tc, .slice ha p.nh hc, .slice ba p.nb bc, .slice la p.nl lc])) (X.kc (Vi 1) rfl) (X.kc (.func (.func 65) #[] #[]) rfl)) (enters_of Try.func64 (by kernel_rfl) rfl _)) (first_any p ta ha ba la tc hc bc lc 1 65 #[] stillF w7 (hP.gr G) hp (by decide) (enters_of Try.func65 (by kernel_rfl) rfl) (fun W xs a c g hi hl hx => still_any a xs.length c W)) ?_
  clear F ac
  have hfG := G
  rintro e w9 ⟨rb, kv, lv, L, B, rfl, hRk, hV, hrb, hBw, hLm, g⟩
  refine ⟨_, rfl, ?_⟩
  intro ac F
  replace G := G.trans g
  replace hC := hC.gr g
  replace hpt := hpt.gr g
  replace hph := hph.gr g
  replace hpb := hpb.gr g
  replace hpl := hpl.gr g
  clear g
  rw [still_law hp (by decide)] at hV
  injection hV with hV
  replace hV := hV.symm
  obtain ⟨ka, kc, rfl⟩ := hRk.k.form
  obtain ⟨la9, lc9, rfl⟩ := hRk.l.form
  refine Y.pv F (X.assign rfl (F.ev 13 (Vp rb))) ?_;clear F ac;intro ac F
  refine Y.nil ?_
  replace F : Fr ac 33 [(6, Vp rb)] := F.sub _
  refine X.thenN ?_
  refine Y.seq ?_
  refine Y.seq ?_
  refine Y.lit (by kernel_rfl) ?_
  refine Y.pv F (X.move rfl (F.ev 6 (Vp rb))) ?_;clear F ac;intro ac F
  refine Y.pv F (Y.nilC rfl (F.ev 14 (Vp rb))) ?_;clear F ac;intro ac F
  refine Y.pv F (X.field rfl (F.ev 15 (Vp rb)) (X.fld Try.underlying91 rfl (Try.siz38 _) rfl rfl)) ?_;clear F ac;intro ac F
  replace hC : RCells w9 [(Ad w.heap.size 0, .slice ta p.nt tc), (Ad w.heap.size 1, .slice ha p.nh hc), (Ad w.heap.size 2, .slice ba p.nb bc), (Ad w.heap.size 3, .slice la p.nl lc), (Ad rb 0, Vi (1 : Nat)), (Ad rb 1, .slice ka L.length kc), (Ad rb 2, .slice la9 L.length lc9)] := hC.append ((RCells.cons (hRk.own.cell (k := 0) (by decide)) (RCells.cons (hRk.own.cell (k := 1) (by decide)) (RCells.cons (hRk.own.cell (k := 2) (by decide)) (RCells.nil _)))))
  refine Y.pv F (X.load rfl (F.ev 16 (.pointer (some ⟨rb, 2, none⟩))) (X.ld1 (Try.agg38 _) (hC.at 6 rfl))) ?_;clear F ac;intro ac F
  refine Y.pv F (X.len1 Try.underlying38 rfl (F.ev 17 (.slice la9 L.length lc9))) ?_;clear F ac;intro ac F
  refine Y.pv F (X.binop rfl (F.ev 18 (Vi L.length)) (X.kc (Vi 0) rfl) (X.eqlI Try.underlying3 rfl)) ?_;clear F ac;intro ac F
  refine Y.nil ?_
  replace F : Fr ac 33 [(6, Vp rb), (19, .bool ((L.length : Int) == 0))] := F.sub _
  refine X.thenN ?_
  cases h10 : ((L.length : Int) == 0) with
  | false =>
   try rw [h10] at F
   have h10p : ¬ (L.length : Int) = 0 := by simpa using h10
   obtain ⟨y, hy⟩ : ∃ y, L[0]? = some y := ⟨_, List.getElem?_eq_getElem (by omega)⟩
   obtain ⟨g9, Lr, rfl, -⟩ := hRk.k.row (by omega)
   obtain ⟨g8, Lr8, rfl, -⟩ := hRk.l.row (by omega)
   have hkc := keys_cell hRk.k rfl hy
   have hlc := begs_cell hRk.l rfl hy
   have hyb := hRk.b y (List.mem_of_getElem? hy)
   replace hC : RCells w9 [(Ad w.heap.size 0, .slice ta p.nt tc), (Ad w.heap.size 1, .slice ha p.nh hc), (Ad w.heap.size 2, .slice ba p.nb bc), (Ad w.heap.size 3, .slice la p.nl lc), (Ad rb 0, Vi (1 : Nat)), (Ad rb 1, .slice (some ⟨g9, 0, none⟩) L.length kc), (Ad rb 2, .slice (some ⟨g8, 0, none⟩) L.length lc9), (⟨g9, 0 * 2, none⟩, Vi y.1.1), (⟨g9, 0 * 2 + 1, none⟩, Vi y.1.2), (Ad g8 0, .slice y.2.a y.2.xs.length y.2.c)] := hC.append ((RCells.cons hkc.1 (RCells.cons hkc.2 (RCells.cons hlc (RCells.nil _)))))
   refine Y.condF (F.ev 19 (.bool false)) ?_
   refine Y.skip ?_
   refine X.thenN ?_
   refine Y.seq ?_
   refine Y.region F [some (Vp rb), some (Vp rb), some (.pointer (some ⟨rb, 2, none⟩)), some (.slice (some ⟨g8, 0, none⟩) L.length lc9), some (Vp g8), some (.slice y.2.a y.2.xs.length y.2.c), some (Vp rb), some (Vp rb), some (.pointer (some ⟨rb, 1, none⟩)), some (.slice (some ⟨g9, 0, none⟩) L.length kc), some (.pointer (some ⟨g9, 0 * 2, none⟩)), some (.pointer (some ⟨g9, 0 * 2 + 1, none⟩)), some (Vi y.1.2), some (.slice y.2.a y.2.xs.length y.2.c), some (Vi y.1.2), some (Vi 0)] [] rfl ⟨by kernel_rfl, of_decide_eq_true (by kernel_rfl), by kernel_rfl, by kernel_rfl, by kernel_rfl⟩ ⟨?_, ?_, ?_, ?_, ?_, ?_, ?_, ?_, ?_, ?_, ?_, ?_, ?_, ?_, ?_, ?_, trivial⟩ ?_
   ·intro ac done u W Sx hR
    exact X.vl (X.move rfl (Sx.ev 6 (Vp rb))) hR.st0
   ·intro ac done u W Sx hR
    exact X.vl (Y.nilC rfl (Sx.ev 20 (Vp rb))) hR.st0
   ·intro ac done u W Sx hR
    exact X.vl (X.field rfl (Sx.ev 21 (Vp rb)) (X.fld Try.underlying91 rfl (Try.siz38 _) rfl rfl)) hR.st0
   ·intro ac done u W Sx hR
    have g : Gr w9 W := hR.1
    exact X.vl (X.load rfl (Sx.ev 22 (.pointer (some ⟨rb, 2, none⟩))) (X.ld1 (Try.agg38 _) ((hC.gr g).at 6 rfl))) hR.st0
   ·intro ac done u W Sx hR
    exact X.vl (X.index rfl (Sx.ev 23 (.slice (some ⟨g8, 0, none⟩) L.length lc9)) (X.kc (Vi 0) rfl) (X.idx (k := 0) Try.underlying38 (Try.siz34 _) (by omega) (by omega) (addr_add0 _ _))) hR.st0
   ·intro ac done u W Sx hR
    have g : Gr w9 W := hR.1
    exact X.vl (X.load rfl (Sx.ev 24 (Vp g8)) (X.ld1 (Try.agg34 _) ((hC.gr g).at 9 rfl))) hR.st0
   ·intro ac done u W Sx hR
    exact X.vl (X.move rfl (Sx.ev 6 (Vp rb))) hR.st0
   ·intro ac done u W Sx hR
    exact X.vl (Y.nilC rfl (Sx.ev 26 (Vp rb))) hR.st0
   ·intro ac done u W Sx hR
    exact X.vl (X.field rfl (Sx.ev 27 (Vp rb)) (X.fld Try.underlying91 rfl (Try.siz89 _) rfl rfl)) hR.st0
   ·intro ac done u W Sx hR
    have g : Gr w9 W := hR.1
    exact X.vl (X.load rfl (Sx.ev 28 (.pointer (some ⟨rb, 1, none⟩))) (X.ld1 (Try.agg89 _) ((hC.gr g).at 5 rfl))) hR.st0
   ·intro ac done u W Sx hR
    exact X.vl (X.index rfl (Sx.ev 29 (.slice (some ⟨g9, 0, none⟩) L.length kc)) (X.kc (Vi 0) rfl) (X.idx (k := 0) Try.underlying89 (Try.siz92 _) (by omega) (by omega) (addr_add0 _ _))) hR.st0
   ·intro ac done u W Sx hR
    exact X.vl (X.index rfl (Sx.ev 30 (.pointer (some ⟨g9, 0 * 2, none⟩))) (X.kc (Vi 1) rfl) (Y.idxA (k := 1) Try.underlying92 (Try.siz3 _) (by decide) (by omega) (by omega) rfl)) hR.st0
   ·intro ac done u W Sx hR
    have g : Gr w9 W := hR.1
    exact X.vl (X.load rfl (Sx.ev 31 (.pointer (some ⟨g9, 0 * 2 + 1, none⟩))) (X.ld1 (Try.agg3 _) ((hC.gr g).at 8 rfl))) hR.st0
   ·intro ac done u W Sx hR
    exact X.vl (X.assign rfl (Sx.ev 25 (.slice y.2.a y.2.xs.length y.2.c))) hR.st0
   ·intro ac done u W Sx hR
    exact X.vl (X.assign rfl (Sx.ev 32 (Vi y.1.2))) hR.st0
   ·intro ac done u W Sx hR
    exact X.vl (X.assign rfl (X.kc (Vi 0) rfl)) hR.st0
   intro ac u w11 hs hd hl ho hR
   have g : Gr w9 w11 := hR.1
   replace F : Fr ac 33 [(2, .slice y.2.a y.2.xs.length y.2.c), (3, Vi y.1.2), (4, Vi 0)] := X.fr hs hd hl _ (by kernel_rfl)
   clear hs hd hl ho hR
   replace G := G.trans g
   replace hC := hC.gr g
   replace hpt := hpt.gr g
   replace hph := hph.gr g
   replace hpb := hpb.gr g
   replace hpl := hpl.gr g
   replace hRk := hRk.gr g
   clear g
   refine X.thenN ?_
   refine Y.ret ?_
   have hb := best_3 hck hV hy
   exact Y.ret0 (v := .tuple #[.slice y.2.a y.2.xs.length y.2.c, Vi y.1.2, Vi 0]) F (Y.rs3 F rfl (by kernel_rfl) (by kernel_rfl) (by kernel_rfl)) ⟨y.2.a, y.2.c, by rw [hb], by rw [hb]; exact (hRk.b y (List.mem_of_getElem? hy)).i, by rw [hb]; exact hyb.nil, G⟩
  | true =>
   try rw [h10] at F
   have h10p : (L.length : Int) = 0 := by simpa using h10
   refine Y.condT (F.ev 19 (.bool true)) ?_
   refine Y.seq ?_
   refine Y.lit (by kernel_rfl) ?_
   refine Y.pv F (X.assign rfl (X.kc (.slice none 0 0) rfl)) ?_;clear F ac;intro ac F
   refine Y.pv F (X.assign rfl (X.kc (Vi 0) rfl)) ?_;clear F ac;intro ac F
   refine Y.pv F (X.assign rfl (X.kc (Vi 3) rfl)) ?_;clear F ac;intro ac F
   refine Y.nil ?_
   replace F : Fr ac 33 [(2, .slice none 0 0), (3, Vi 0), (4, Vi 3)] := F.sub _
   refine X.thenN ?_
   refine Y.ret ?_
   refine X.thenR ?_
   have hb := best_2 hck hV (by omega)
   exact Y.ret0 (v := .tuple #[.slice none 0 0, Vi 0, Vi 3]) F (Y.rs3 F rfl (by kernel_rfl) (by kernel_rfl) (by kernel_rfl)) ⟨none, 0, by rw [hb]; rfl, by rw [hb]; exact Ints.nil0 _, by rw [hb]; exact fun _ => ⟨rfl, rfl⟩, G⟩
 | true =>
  try rw [h8] at F
  have h8p : ¬ (chkE p : Int) = 0 := by simpa using h8
  refine Y.condT (F.ev 10 (.bool true)) ?_
  refine Y.seq ?_
  refine Y.lit (by kernel_rfl) ?_
  refine Y.pv F (X.move rfl (F.ev 5 (Vi (chkE p)))) ?_;clear F ac;intro ac F
  refine Y.pv F (X.assign rfl (X.kc (.slice none 0 0) rfl)) ?_;clear F ac;intro ac F
  refine Y.pv F (X.assign rfl (X.kc (Vi 0) rfl)) ?_;clear F ac;intro ac F
  refine Y.pv F (X.assign rfl (F.ev 11 (Vi (chkE p)))) ?_;clear F ac;intro ac F
  refine Y.nil ?_
  replace F : Fr ac 33 [(2, .slice none 0 0), (3, Vi 0), (4, Vi (chkE p))] := F.sub _
  refine X.thenN ?_
  refine Y.ret ?_
  refine X.thenR ?_
  have hb := best_1 (p := p) (by omega)
  exact Y.ret0 (v := .tuple #[.slice none 0 0, Vi 0, Vi (chkE p)]) F (Y.rs3 F rfl (by kernel_rfl) (by kernel_rfl) (by kernel_rfl)) ⟨none, 0, by rw [hb]; rfl, by rw [hb]; exact Ints.nil0 _, by rw [hb]; exact fun _ => ⟨rfl, rfl⟩, G⟩
end
section
open Go.RowKit

/-- the problem of the examples -/
def exP : Pb where
  nt := 2
  nh := 2
  nb := 0
  nl := 1
  tn := fun i => if i = 0 then ⟨#[97]⟩ else ⟨#[98]⟩
  tv := fun i r => (([[0, 2, 3, 0], [0, 1, 3, 2]] : List (List Int))[i]?.getD [])[r]?.getD 0
  hn := fun i => if i = 0 then ⟨#[120]⟩ else ⟨#[121]⟩
  hv := fun i r => (([[0, 4, 5, 2, 0, 10], [0, 2, 5, 0, 1, 4]] : List (List Int))[i]?.getD [])[r]?.getD 0
  bv := fun _ _ => 0
  lv := fun _ r => ([0, 1, 3] : List Int)[r]?.getD 0
theorem ex_best : bestR exP = ([1, 0], 20, 0) := by kernel_rfl
theorem TbAt.only {S : Nat → Prop} {w w' : World} {k : Nat} {a : Option Addr} {n c : Nat} {V : Nat → Nat → Value} (h : TbAt w k a n c V) (g : Only S w w') (hn : ∀ ad, a = some ad → ¬ S ad.block) : TbAt w' k a n c V :=
  ⟨h.1, h.2.1, fun j hj => by
    obtain ⟨ad, e, hb, hc⟩ := h.2.2 j hj
    exact ⟨ad, e, Nat.lt_of_lt_of_le hb g.size, fun r hr => g.cell (hc r hr) (by rw [add_block, add_block]; exact hn ad e)⟩⟩
theorem TbAt.nil (w : World) (k c : Nat) (a : Option Addr) (V : Nat → Nat → Value) : TbAt w k a 0 c V := ⟨Nat.zero_le _, by simp, fun j hj => by omega⟩
theorem tb_new {W : World} {b k n : Nat} {V : Nat → Nat → Value} {cs : List Value} {t : TypeId} (h : W.heap[b]? = some (.cells cs.toArray t)) (hn : n * k * 8 ≤ 140737488351232) (hc : ∀ j r, j < n → r < k → cs[j * k + r]? = some (V j r)) : TbAt W k (some ⟨b, 0, none⟩) n n V :=
  ⟨Nat.le_refl _, hn, fun j hj => ⟨_, rfl, (Array.getElem?_eq_some_iff.1 h).1, fun r hr => by
    rw [addr_add0, show (⟨b, j * k, none⟩ : Addr).add r = ⟨b, j * k + r, none⟩ from Y.addr_add _ _ _]
    exact cell_at h (by simpa using hc j r hj hr)⟩⟩
theorem exT_at {W : World} {b : Nat} (h : W.heap[b]? = some (.cells #[.string ⟨#[97]⟩, .int .i64 2, .int .i64 3, .int .i64 0, .string ⟨#[98]⟩, .int .i64 1, .int .i64 3, .int .i64 2] 74)) : TbAt W 4 (some ⟨b, 0, none⟩) 2 2 (tvV exP) := tb_new (cs := [.string ⟨#[97]⟩, .int .i64 2, .int .i64 3, .int .i64 0, .string ⟨#[98]⟩, .int .i64 1, .int .i64 3, .int .i64 2]) h (by decide) (fun j r hj hr => by
  have h1 : j = 0 ∨ j = 1 := by omega
  have h2 : r = 0 ∨ r = 1 ∨ r = 2 ∨ r = 3 := by omega
  rcases h1 with rfl | rfl <;> rcases h2 with rfl | rfl | rfl | rfl <;> rfl)
theorem exH_at {W : World} {b : Nat} (h : W.heap[b]? = some (.cells #[.string ⟨#[120]⟩, .int .i64 4, .int .i64 5, .int .i64 2, .int .i64 0, .int .i64 10, .string ⟨#[121]⟩, .int .i64 2, .int .i64 5, .int .i64 0, .int .i64 1, .int .i64 4] 53)) : TbAt W 6 (some ⟨b, 0, none⟩) 2 2 (hvV exP) := tb_new (cs := [.string ⟨#[120]⟩, .int .i64 4, .int .i64 5, .int .i64 2, .int .i64 0, .int .i64 10, .string ⟨#[121]⟩, .int .i64 2, .int .i64 5, .int .i64 0, .int .i64 1, .int .i64 4]) h (by decide) (fun j r hj hr => by
  have h1 : j = 0 ∨ j = 1 := by omega
  have h2 : r = 0 ∨ r = 1 ∨ r = 2 ∨ r = 3 ∨ r = 4 ∨ r = 5 := by omega
  rcases h1 with rfl | rfl <;> rcases h2 with rfl | rfl | rfl | rfl | rfl | rfl <;> rfl)
theorem exL_at {W : World} {b : Nat} (h : W.heap[b]? = some (.cells #[.int .i64 0, .int .i64 1, .int .i64 3] 84)) : TbAt W 3 (some ⟨b, 0, none⟩) 1 1 (lvV exP) := tb_new (cs := [.int .i64 0, .int .i64 1, .int .i64 3]) h (by decide) (fun j r hj hr => by
  obtain rfl : j = 0 := by omega
  have h2 : r = 0 ∨ r = 1 ∨ r = 2 := by omega
  rcases h2 with rfl | rfl | rfl <;> rfl)
theorem Try.exT0 (w : World) : (Instr.build 74 #[(0, .string ⟨#[97]⟩), (1, .int .i64 2), (2, .int .i64 3)]).run Try.prog w = .ok (.agg #[.string ⟨#[97]⟩, .int .i64 2, .int .i64 3, .int .i64 0]) w := by kernel_rfl
theorem Try.exT1 (w : World) : (Instr.build 74 #[(0, .string ⟨#[98]⟩), (1, .int .i64 1), (2, .int .i64 3), (3, .int .i64 2)]).run Try.prog w = .ok (.agg #[.string ⟨#[98]⟩, .int .i64 1, .int .i64 3, .int .i64 2]) w := by kernel_rfl
theorem Try.exH0 (w : World) : (Instr.build 53 #[(0, .string ⟨#[120]⟩), (1, .int .i64 4), (2, .int .i64 5), (3, .int .i64 2), (5, .int .i64 10)]).run Try.prog w = .ok (.agg #[.string ⟨#[120]⟩, .int .i64 4, .int .i64 5, .int .i64 2, .int .i64 0, .int .i64 10]) w := by kernel_rfl
theorem Try.exH1 (w : World) : (Instr.build 53 #[(0, .string ⟨#[121]⟩), (1, .int .i64 2), (2, .int .i64 5), (4, .int .i64 1), (5, .int .i64 4)]).run Try.prog w = .ok (.agg #[.string ⟨#[121]⟩, .int .i64 2, .int .i64 5, .int .i64 0, .int .i64 1, .int .i64 4]) w := by kernel_rfl
theorem Try.exL0 (w : World) : (Instr.build 84 #[(0, .int .i64 0), (1, .int .i64 1), (2, .int .i64 3)]).run Try.prog w = .ok (.agg #[.int .i64 0, .int .i64 1, .int .i64 3]) w := by kernel_rfl
theorem Try.exsT (w : World) : (Instr.buildSlice 22 2 #[(0, .agg #[.string ⟨#[97]⟩, .int .i64 2, .int .i64 3, .int .i64 0]), (1, .agg #[.string ⟨#[98]⟩, .int .i64 1, .int .i64 3, .int .i64 2])]).run Try.prog w = .ok (.slice (some ⟨w.heap.size, 0, none⟩) 2 2) (w.alloc (.cells #[.string ⟨#[97]⟩, .int .i64 2, .int .i64 3, .int .i64 0, .string ⟨#[98]⟩, .int .i64 1, .int .i64 3, .int .i64 2] 74)) := by kernel_rfl
theorem Try.exsH (w : World) : (Instr.buildSlice 23 2 #[(0, .agg #[.string ⟨#[120]⟩, .int .i64 4, .int .i64 5, .int .i64 2, .int .i64 0, .int .i64 10]), (1, .agg #[.string ⟨#[121]⟩, .int .i64 2, .int .i64 5, .int .i64 0, .int .i64 1, .int .i64 4])]).run Try.prog w = .ok (.slice (some ⟨w.heap.size, 0, none⟩) 2 2) (w.alloc (.cells #[.string ⟨#[120]⟩, .int .i64 4, .int .i64 5, .int .i64 2, .int .i64 0, .int .i64 10, .string ⟨#[121]⟩, .int .i64 2, .int .i64 5, .int .i64 0, .int .i64 1, .int .i64 4] 53)) := by kernel_rfl
theorem Try.exsL (w : World) : (Instr.buildSlice 25 1 #[(0, .agg #[.int .i64 0, .int .i64 1, .int .i64 3])]).run Try.prog w = .ok (.slice (some ⟨w.heap.size, 0, none⟩) 1 1) (w.alloc (.cells #[.int .i64 0, .int .i64 1, .int .i64 3] 84)) := by kernel_rfl
theorem Try.bd27 (a b c : Option Addr) (n1 c1 n2 c2 n3 c3 : Nat) (w : World) : (Instr.build 27 #[(0, .slice a n1 c1), (1, .slice b n2 c2), (3, .slice c n3 c3)]).run Try.prog w = .ok (.agg #[.slice a n1 c1, .slice b n2 c2, .slice none 0 0, .slice c n3 c3]) w := by kernel_rfl
theorem X.b013 {ρ : Operand → Value} {x y z : Operand} {v1 v2 v3 : Value} (h1 : ρ x = v1) (h2 : ρ y = v2) (h3 : ρ z = v3) : [(0, x), (1, y), (3, z)].map (fun p : Nat × Operand => (p.1, ρ p.2)) = [(0, v1), (1, v2), (3, v3)] := by simp [h1, h2, h3]
theorem exT_sz : ∀ i, i < exP.nt → (exP.tn i).size ≤ 9223372036854775807 := fun i _ => by
  show (if i = 0 then (⟨#[97]⟩ : ByteArray) else ⟨#[98]⟩).size ≤ _
  split <;> decide
theorem exH_sz : ∀ i, i < exP.nh → (exP.hn i).size ≤ 9223372036854775807 := fun i _ => by
  show (if i = 0 then (⟨#[120]⟩ : ByteArray) else ⟨#[121]⟩).size ≤ _
  split <;> decide
set_option maxRecDepth 100000 in
set_option maxHeartbeats 400000 in
theorem example_any (w : World) :
  Calls Try.prog 51 #[] w fun e w' => ∃ ta ha la, e = .returned (.agg #[.slice ta 2 2, .slice ha 2 2, .slice none 0 0, .slice la 1 1]) ∧ PbAt w' exP ta ha none la 2 2 0 1 ∧ Gr w w' := by
 have G := Gr.refl w
 refine Y.calls 10 Try.func51 rfl rfl ?_
 intro ac F0
 have F : Fr ac 10 [] := F0.sub _
 clear F0
 refine Y.seq ?_
 refine Y.lit (by kernel_rfl) ?_
 refine Y.pv F (Y.al rfl (Try.new27 _)) ?_;clear F ac;intro ac F
 have g := Gr.alloc w (.cells #[.slice none 0 0, .slice none 0 0, .slice none 0 0, .slice none 0 0] 27)
 have hb := heap_alloc_new w (.cells #[.slice none 0 0, .slice none 0 0, .slice none 0 0, .slice none 0 0] 27)
 have hszw3 : w.heap.size < (w.alloc (.cells #[.slice none 0 0, .slice none 0 0, .slice none 0 0, .slice none 0 0] 27)).heap.size := by simp
 have hgsw3 : w.heap.size ≤ w.heap.size := G.size
 generalize w.alloc (.cells #[.slice none 0 0, .slice none 0 0, .slice none 0 0, .slice none 0 0] 27) = w3 at *
 replace G := G.trans g
 have hVw3 : OwnP w3 w.heap.size 4 (VL [.slice none 0 0, .slice none 0 0, .slice none 0 0, .slice none 0 0]) := ownP_bx (vs := [.slice none 0 0, .slice none 0 0, .slice none 0 0, .slice none 0 0]) hb
 clear g hb
 refine Y.nil ?_
 replace F : Fr ac 10 [(0, Vp w.heap.size)] := F.sub _
 refine X.thenN ?_
 refine Y.seq ?_
 refine Y.lit (by kernel_rfl) ?_
 refine Y.pv F (Y.bd rfl rfl (Try.exT0 _)) ?_;clear F ac;intro ac F
 refine Y.pv F (Y.bd rfl rfl (Try.exT1 _)) ?_;clear F ac;intro ac F
 refine Y.pv F (X.bs rfl (X.b2 (F.ev 1 (.agg #[.string ⟨#[97]⟩, Vi 2, Vi 3, Vi 0])) (F.ev 2 (.agg #[.string ⟨#[98]⟩, Vi 1, Vi 3, Vi 2]))) (Try.exsT _)) ?_;clear F ac;intro ac F
 have g := Gr.alloc w3 (.cells #[.string ⟨#[97]⟩, Vi 2, Vi 3, Vi 0, .string ⟨#[98]⟩, Vi 1, Vi 3, Vi 2] 74)
 have hgsT : w.heap.size ≤ w3.heap.size := G.size
 have hboT : w.heap.size < w3.heap.size := hVw3.lt
 have hxT := exT_at (heap_alloc_new w3 (.cells #[.string ⟨#[97]⟩, Vi 2, Vi 3, Vi 0, .string ⟨#[98]⟩, Vi 1, Vi 3, Vi 2] 74))
 generalize w3.alloc (.cells #[.string ⟨#[97]⟩, Vi 2, Vi 3, Vi 0, .string ⟨#[98]⟩, Vi 1, Vi 3, Vi 2] 74) = w4 at *
 replace G := G.trans g
 replace hVw3 := hVw3.gr g
 clear g
 refine Y.pv F (Y.bd rfl rfl (Try.exH0 _)) ?_;clear F ac;intro ac F
 refine Y.pv F (Y.bd rfl rfl (Try.exH1 _)) ?_;clear F ac;intro ac F
 refine Y.pv F (X.bs rfl (X.b2 (F.ev 4 (.agg #[.string ⟨#[120]⟩, Vi 4, Vi 5, Vi 2, Vi 0, Vi 10])) (F.ev 5 (.agg #[.string ⟨#[121]⟩, Vi 2, Vi 5, Vi 0, Vi 1, Vi 4]))) (Try.exsH _)) ?_;clear F ac;intro ac F
 have g := Gr.alloc w4 (.cells #[.string ⟨#[120]⟩, Vi 4, Vi 5, Vi 2, Vi 0, Vi 10, .string ⟨#[121]⟩, Vi 2, Vi 5, Vi 0, Vi 1, Vi 4] 53)
 have hgsH : w.heap.size ≤ w4.heap.size := G.size
 have hboH : w.heap.size < w4.heap.size := hVw3.lt
 have hxH := exH_at (heap_alloc_new w4 (.cells #[.string ⟨#[120]⟩, Vi 4, Vi 5, Vi 2, Vi 0, Vi 10, .string ⟨#[121]⟩, Vi 2, Vi 5, Vi 0, Vi 1, Vi 4] 53))
 generalize w4.alloc (.cells #[.string ⟨#[120]⟩, Vi 4, Vi 5, Vi 2, Vi 0, Vi 10, .string ⟨#[121]⟩, Vi 2, Vi 5, Vi 0, Vi 1, Vi 4] 53) = w5 at *
 replace G := G.trans g
 replace hVw3 := hVw3.gr g
 replace hxT := hxT.gr g
 clear g
 refine Y.pv F (Y.bd rfl rfl (Try.exL0 _)) ?_;clear F ac;intro ac F
 refine Y.pv F (X.bs rfl (X.b1 (F.ev 7 (.agg #[Vi 0, Vi 1, Vi 3]))) (Try.exsL _)) ?_;clear F ac;intro ac F
 have g := Gr.alloc w5 (.cells #[Vi 0, Vi 1, Vi 3] 84)
 have hgsL : w.heap.size ≤ w5.heap.size := G.size
 have hboL : w.heap.size < w5.heap.size := hVw3.lt
 have hxL := exL_at (heap_alloc_new w5 (.cells #[Vi 0, Vi 1, Vi 3] 84))
 generalize w5.alloc (.cells #[Vi 0, Vi 1, Vi 3] 84) = w6 at *
 replace G := G.trans g
 replace hVw3 := hVw3.gr g
 replace hxT := hxT.gr g
 replace hxH := hxH.gr g
 clear g
 refine Y.pv F (Y.bd rfl (X.b013 (F.ev 3 (.slice (some ⟨w3.heap.size, 0, none⟩) 2 2)) (F.ev 6 (.slice (some ⟨w4.heap.size, 0, none⟩) 2 2)) (F.ev 8 (.slice (some ⟨w5.heap.size, 0, none⟩) 1 1))) (Try.bd27 _ _ _ _ _ _ _ _ _ _)) ?_;clear F ac;intro ac F
 obtain ⟨w7, hrun, hV2, hon⟩ := ownP_store (P := Try.prog) (vs := [.slice (some ⟨w3.heap.size, 0, none⟩) 2 2, .slice (some ⟨w4.heap.size, 0, none⟩) 2 2, .slice none 0 0, .slice (some ⟨w5.heap.size, 0, none⟩) 1 1]) (t := 27) hVw3 rfl (fun W => Try.siz27 W) rfl
 refine Y.punit F (X.w0 rfl) rfl (X.store rfl (F.ev 0 (Vp w.heap.size)) (F.ev 9 (.agg #[.slice (some ⟨w3.heap.size, 0, none⟩) 2 2, .slice (some ⟨w4.heap.size, 0, none⟩) 2 2, .slice none 0 0, .slice (some ⟨w5.heap.size, 0, none⟩) 1 1])) hrun) ?_
 clear F ac hrun
 intro ac F
 replace hxT := hxT.only hon (fun ad e h => by injection e with e; subst e; have h9 : _ = _ := h; simp only at h9; omega)
 replace hxH := hxH.only hon (fun ad e h => by injection e with e; subst e; have h9 : _ = _ := h; simp only at h9; omega)
 replace hxL := hxL.only hon (fun ad e h => by injection e with e; subst e; have h9 : _ = _ := h; simp only at h9; omega)
 replace G := Y.Only.up G hon (by omega)
 refine Y.nil ?_
 replace F : Fr ac 10 [(0, Vp w.heap.size)] := F.sub _
 refine X.thenN ?_
 refine Y.ret ?_
 exact Y.ret0 (v := .agg #[.slice (some ⟨w3.heap.size, 0, none⟩) 2 2, .slice (some ⟨w4.heap.size, 0, none⟩) 2 2, .slice none 0 0, .slice (some ⟨w5.heap.size, 0, none⟩) 1 1]) F (Y.rcl F rfl (by kernel_rfl) (ownP_load hV2 (Try.agg27 _) (Try.siz27 _) rfl)) ⟨_, _, _, rfl, ⟨hxT, hxH, TbAt.nil _ _ _ _ _, hxL, fun i hi => exT_sz i hi, fun i hi => exH_sz i hi⟩, G⟩
set_option maxRecDepth 100000 in
set_option maxHeartbeats 400000 in
theorem works_any (w : World) :
  Calls Try.prog 16 #[] w fun e w' => e = .returned (.bool true) ∧ Gr w w' := by
 have G := Gr.refl w
 refine Y.calls 33 Try.func16 rfl rfl ?_
 intro ac F0
 have F : Fr ac 33 [] := F0.sub _
 clear F0
 refine Y.seq ?_
 refine Y.lit (by kernel_rfl) ?_
 refine Y.pv F (X.assign rfl (X.kc (.bool false) rfl)) ?_;clear F ac;intro ac F
 refine Y.nil ?_
 replace F : Fr ac 33 [] := F.sub _
 refine X.thenN ?_
 refine Y.seq ?_
 refine Y.lit (by kernel_rfl) ?_
 refine Y.pcall F (X.w0 rfl) rfl (X.enter (F := 51) rfl (X.kc (.func (.func 51) #[] #[]) rfl) rfl (enters_of Try.func51 (by kernel_rfl) rfl _)) (example_any w) ?_
 clear F ac
 rintro e w3 ⟨ta, ha, la, rfl, hP0, g⟩
 refine ⟨_, rfl, ?_⟩
 intro ac F
 replace G := G.trans g
 clear g
 have hP := hP0
 refine Y.pcall F (X.w0 rfl) rfl (X.enter (F := 22) rfl (X.kc (.func (.func 22) #[] #[]) rfl) (X.a1 (F.ev 5 (.agg #[.slice ta 2 2, .slice ha 2 2, .slice none 0 0, .slice la 1 1]))) (enters_of Try.func22 (by kernel_rfl) rfl _)) (best_any exP ta ha none la 2 2 0 1 w3 hP) ?_
 clear F ac
 rintro e w4 ⟨a9, c9, rfl, hI, -, g⟩
 rw [ex_best] at hI
 refine ⟨_, rfl, ?_⟩
 rw [ex_best]
 intro ac F
 replace G := G.trans g
 clear g
 obtain ⟨ad, rfl, -, hc0⟩ := hI.at (j := 0) (by decide)
 obtain ⟨ad2, e2, -, hc1⟩ := hI.at (j := 1) (by decide)
 injection e2 with e2
 subst e2
 have hC : RCells w4 [(ad.add 0, Vi 1), (ad.add 1, Vi 0)] := (RCells.cons hc0 (RCells.cons hc1 (RCells.nil _)))
 refine Y.pv F (X.move rfl (F.ev 6 (.tuple #[.slice (some ad) 2 c9, Vi 20, Vi 0]))) ?_;clear F ac;intro ac F
 refine Y.pv F (X.extract rfl (F.ev 4 (.tuple #[.slice (some ad) 2 c9, Vi 20, Vi 0])) rfl) ?_;clear F ac;intro ac F
 refine Y.pv F (X.extract rfl (F.ev 4 (.tuple #[.slice (some ad) 2 c9, Vi 20, Vi 0])) rfl) ?_;clear F ac;intro ac F
 refine Y.pv F (X.extract rfl (F.ev 4 (.tuple #[.slice (some ad) 2 c9, Vi 20, Vi 0])) rfl) ?_;clear F ac;intro ac F
 refine Y.pv F (X.assign rfl (F.ev 7 (.slice (some ad) 2 c9))) ?_;clear F ac;intro ac F
 refine Y.pv F (X.assign rfl (F.ev 8 (Vi 20))) ?_;clear F ac;intro ac F
 refine Y.pv F (X.assign rfl (F.ev 9 (Vi 0))) ?_;clear F ac;intro ac F
 refine Y.nil ?_
 replace F : Fr ac 33 [(1, .slice (some ad) 2 c9), (2, Vi 20), (3, Vi 0)] := F.sub _
 refine X.thenN ?_
 refine Y.seq ?_
 refine Y.lit (by kernel_rfl) ?_
 refine Y.pv F (X.move rfl (F.ev 3 (Vi 0))) ?_;clear F ac;intro ac F
 refine Y.pval F (X.w0 rfl) rfl (X.binop rfl (F.ev 10 (Vi 0)) (X.kc (Vi 0) rfl) (X.eqlI Try.underlying31 (show ((0 : Int) == 0) = true by simp))) ?_;clear F ac;intro ac F
 refine Y.pv F (X.move rfl (F.ev 11 (.bool true))) ?_;clear F ac;intro ac F
 refine Y.pval F (X.w1 rfl (F.yl (j := 2) (d := 12) (b := true) rfl (by kernel_rfl))) rfl (X.move rfl (F.ev 2 (Vi 20))) ?_;clear F ac;intro ac F
 refine Y.pval F (X.w1 rfl (F.yl (j := 2) (d := 12) (b := true) rfl (by kernel_rfl))) rfl (X.binop rfl (F.ev 13 (Vi 20)) (X.kc (Vi 20) rfl) (X.eqlI Try.underlying3 (show ((20 : Int) == 20) = true by simp))) ?_;clear F ac;intro ac F
 refine Y.pv F (X.pickT rfl (F.ev 12 (.bool true)) (F.ev 14 (.bool true))) ?_;clear F ac;intro ac F
 refine Y.pv F (X.move rfl (F.ev 15 (.bool true))) ?_;clear F ac;intro ac F
 refine Y.pval F (X.w1 rfl (F.yl (j := 6) (d := 16) (b := true) rfl (by kernel_rfl))) rfl (X.move rfl (F.ev 1 (.slice (some ad) 2 c9))) ?_;clear F ac;intro ac F
 refine Y.pval F (X.w1 rfl (F.yl (j := 6) (d := 16) (b := true) rfl (by kernel_rfl))) rfl (X.len1 Try.underlying34 rfl (F.ev 17 (.slice (some ad) 2 c9))) ?_;clear F ac;intro ac F
 refine Y.pval F (X.w1 rfl (F.yl (j := 6) (d := 16) (b := true) rfl (by kernel_rfl))) rfl (X.binop rfl (F.ev 18 (Vi 2)) (X.kc (Vi 2) rfl) (X.eqlI Try.underlying3 (show ((2 : Int) == 2) = true by simp))) ?_;clear F ac;intro ac F
 refine Y.pv F (X.pickT rfl (F.ev 16 (.bool true)) (F.ev 19 (.bool true))) ?_;clear F ac;intro ac F
 refine Y.pv F (X.move rfl (F.ev 20 (.bool true))) ?_;clear F ac;intro ac F
 refine Y.pval F (X.w1 rfl (F.yl (j := 11) (d := 21) (b := true) rfl (by kernel_rfl))) rfl (X.move rfl (F.ev 1 (.slice (some ad) 2 c9))) ?_;clear F ac;intro ac F
 refine Y.pval F (X.w1 rfl (F.yl (j := 11) (d := 21) (b := true) rfl (by kernel_rfl))) rfl (X.index rfl (F.ev 22 (.slice (some ad) 2 c9)) (X.kc (Vi 0) rfl) (X.idx (k := 0) Try.underlying34 (Try.siz3 _) (by omega) (by omega) (by rw [Nat.mul_one]))) ?_;clear F ac;intro ac F
 refine Y.pval F (X.w1 rfl (F.yl (j := 11) (d := 21) (b := true) rfl (by kernel_rfl))) rfl (X.load rfl (F.ev 23 (.pointer (some (ad.add 0)))) (X.ld1 (Try.agg3 _) (hC.at 0 rfl))) ?_;clear F ac;intro ac F
 refine Y.pval F (X.w1 rfl (F.yl (j := 11) (d := 21) (b := true) rfl (by kernel_rfl))) rfl (X.binop rfl (F.ev 24 (Vi 1)) (X.kc (Vi 1) rfl) (X.eqlI Try.underlying3 (show ((1 : Int) == 1) = true by simp))) ?_;clear F ac;intro ac F
 refine Y.pv F (X.pickT rfl (F.ev 21 (.bool true)) (F.ev 25 (.bool true))) ?_;clear F ac;intro ac F
 refine Y.pv F (X.move rfl (F.ev 26 (.bool true))) ?_;clear F ac;intro ac F
 refine Y.pval F (X.w1 rfl (F.yl (j := 17) (d := 27) (b := true) rfl (by kernel_rfl))) rfl (X.move rfl (F.ev 1 (.slice (some ad) 2 c9))) ?_;clear F ac;intro ac F
 refine Y.pval F (X.w1 rfl (F.yl (j := 17) (d := 27) (b := true) rfl (by kernel_rfl))) rfl (X.index rfl (F.ev 28 (.slice (some ad) 2 c9)) (X.kc (Vi 1) rfl) (X.idx (k := 1) Try.underlying34 (Try.siz3 _) (by omega) (by omega) (by rw [Nat.mul_one]))) ?_;clear F ac;intro ac F
 refine Y.pval F (X.w1 rfl (F.yl (j := 17) (d := 27) (b := true) rfl (by kernel_rfl))) rfl (X.load rfl (F.ev 29 (.pointer (some (ad.add 1)))) (X.ld1 (Try.agg3 _) (hC.at 1 rfl))) ?_;clear F ac;intro ac F
 refine Y.pval F (X.w1 rfl (F.yl (j := 17) (d := 27) (b := true) rfl (by kernel_rfl))) rfl (X.binop rfl (F.ev 30 (Vi 0)) (X.kc (Vi 0) rfl) (X.eqlI Try.underlying3 (show ((0 : Int) == 0) = true by simp))) ?_;clear F ac;intro ac F
 refine Y.pv F (X.pickT rfl (F.ev 27 (.bool true)) (F.ev 31 (.bool true))) ?_;clear F ac;intro ac F
 refine Y.pv F (X.assign rfl (F.ev 32 (.bool true))) ?_;clear F ac;intro ac F
 refine Y.nil ?_
 replace F : Fr ac 33 [(0, .bool true)] := F.sub _
 refine X.thenN ?_
 refine Y.ret ?_
 exact Y.ret0 (v := .bool true) F (Y.rs1 F rfl (by kernel_rfl)) ⟨rfl, G⟩
end
end Go.Proofs.Ytodedneanlekdaa
