/- Several texts of this claim in one file. (1) All allowed plans, as rows in memory; regions that call twice and append. Nothing of the program is proved here. (2) The first allowed plan, by the reference. Nothing of the program is proved here. (3) Sorting by insertion into new rows: regions that make a row of three parts. Nothing of the program is proved here. (4) Counting the allowed plans. Nothing of the program is proved here. (5) Contracts: hosted and begun. (6) The plan that differs the least. Nothing of the program is proved here. (7) Contract: Best. (8) Contract: the look at the example. (9) Contracts: far, Large, SameInts. (10) Contracts: Contains, Repair$1, differ. (11) Contracts: Allowed, Cost, Hopeless, Bound. (12) Contracts: the reference's Allowed, Cost, Hopeless, Bound. -/
import Derived.Test.YtodedneanlekdaaBd10
import Derived.Test.YtodedneanlekdaaBd11
import Derived.Test.YtodedneanlekdaaBd8
import Derived.Test.YtodedneanlekdaaBd4
namespace Go.Proofs.Ytodedneanlekdaa
set_option linter.unusedSimpArgs false
set_option linter.unusedVariables false
section
set_option linter.unusedVariables false
open Go.RowKit
/-- rows as values -/
def rowsV (E : List BegE) : List Value := E.map fun x => .slice x.a x.xs.length x.c
theorem rowsV_len (E : List BegE) : (rowsV E).length = E.length := by simp [rowsV]
theorem rowsV_all (E : List BegE) : ((rowsV E).all fun v => v.oneCell') = true := by
  rw [List.all_eq_true]; intro v hv
  simp only [rowsV, List.mem_map] at hv
  obtain ⟨x, _, rfl⟩ := hv
  rfl
/-- rows of numbers, in a slice of the call's own -/
structure RwAt (W : World) (B : Nat) (v : Value) (E : List BegE) : Prop where
  o : OwnR W B 34 1 v E.length (rowsV E)
  i : ∀ x ∈ E, Ints W x.a x.xs.length x.xs
  n : ∀ x ∈ E, ∀ ad, x.a = some ad → v.ownBlock ≠ some ad.block ∧ ad.block < W.heap.size
theorem RwAt.gr {W W' : World} {B : Nat} {v : Value} {E : List BegE} (h : RwAt W B v E) (g : Gr W W') : RwAt W' B v E :=
  ⟨h.o.gr g, fun x hx => (h.i x hx).gr g, fun x hx ad e => ⟨(h.n x hx ad e).1, Nat.lt_of_lt_of_le (h.n x hx ad e).2 g.size⟩⟩
theorem RwAt.nil (W : World) (B : Nat) : RwAt W B (.slice none 0 0) [] := ⟨OwnR.nil _ _ _ _, fun x hx => (by simp at hx), fun x hx => (by simp at hx)⟩
theorem RwAt.lower {W : World} {B B' : Nat} {v : Value} {E : List BegE} (h : RwAt W B v E) (hB : B' ≤ B) : RwAt W B' v E := ⟨h.o.lower hB, h.i, h.n⟩
theorem RwAt.form {W : World} {B : Nat} {v : Value} {E : List BegE} (h : RwAt W B v E) : ∃ a c, v = .slice a E.length c := h.o.form
/-- the rows come in behind the others -/
theorem RwAt.push {W W' : World} {B B2 : Nat} {v v2 v' : Value} {E E2 : List BegE} (h : RwAt W B v E) (h2 : RwAt W B2 v2 E2) (hO : OwnR W' B 34 1 v' (E.length + E2.length) (rowsV E ++ rowsV E2)) (hon : Only (fun b => v.ownBlock = some b) W W')
    (hat : v'.ownBlock = v.ownBlock ∨ v'.ownBlock = some W.heap.size) (hne : ∀ x ∈ E2, ∀ ad, x.a = some ad → v.ownBlock ≠ some ad.block) : RwAt W' B v' (E ++ E2) := by
  have hn : ∀ x ∈ E ++ E2, Ints W x.a x.xs.length x.xs ∧ ∀ ad, x.a = some ad → v.ownBlock ≠ some ad.block ∧ ad.block < W.heap.size := fun x hx => by
    rcases List.mem_append.1 hx with hx | hx
    · exact ⟨h.i x hx, h.n x hx⟩
    · exact ⟨h2.i x hx, fun ad e => ⟨hne x hx ad e, (h2.n x hx ad e).2⟩⟩
  refine ⟨by rw [List.length_append]; simpa [rowsV] using hO, fun x hx => (hn x hx).1.onlyAt hon (fun ad e => (hn x hx).2 ad e |>.1), fun x hx ad e => ?_⟩
  obtain ⟨n1, n2⟩ := (hn x hx).2 ad e
  refine ⟨fun e2 => ?_, Nat.lt_of_lt_of_le n2 hon.size⟩
  rcases hat with h3 | h3
  · rw [h3] at e2; exact n1 e2
  · rw [h3] at e2; injection e2 with e2; omega
/-- a row as an element -/
theorem RwAt.cell {W : World} {B g c i : Nat} {E : List BegE} {x : BegE} (h : RwAt W B (.slice (some ⟨g, 0, none⟩) E.length c) E) (hx : E[i]? = some x) : W.cell? ⟨g, i, none⟩ = some (.slice x.a x.xs.length x.c) := by
  have hi : i < E.length := (List.getElem?_eq_some_iff.1 hx).1
  have := World.ownsRow.cells h.o (g := g) rfl i (.slice x.a x.xs.length x.c) (by simp [rowsV, hx])
  rwa [addr_add0] at this
theorem RwAt.ex {W : World} {B c : Nat} {a : Option Addr} {E : List BegE} (h : RwAt W B (.slice a E.length c) E) (h0 : 0 < E.length) : ∃ g, a = some ⟨g, 0, none⟩ ∧ B ≤ g ∧ g < W.heap.size := by
  rcases h.o.shape with ⟨_, h1⟩ | ⟨g, c', e, h1, h2⟩
  · omega
  · injection e with e; exact ⟨g, e, h1, h2⟩
theorem RwAt.src {W : World} {B c : Nat} {a : Option Addr} {E : List BegE} (h : RwAt W B (.slice a E.length c) E) : ∀ ad, a = some ad → ∀ j u, (rowsV E)[j]? = some u → W.cell? (ad.add j) = some u := by
  intro ad e j u hu
  have hj : j < E.length := by have := (List.getElem?_eq_some_iff.1 hu).1; rwa [rowsV_len] at this
  obtain ⟨g, e2, _, _⟩ := h.ex (by omega)
  rw [e] at e2; injection e2 with e2
  subst e2
  subst e
  exact World.ownsRow.cells h.o (g := g) rfl j u hu
theorem RwAt.none0 {W : World} {B c : Nat} {a : Option Addr} {E : List BegE} (h : RwAt W B (.slice a E.length c) E) : a = none → E.length = 0 := fun e => by
  refine Classical.byContradiction fun h0 => ?_
  obtain ⟨g, e2, _⟩ := h.ex (by omega)
  rw [e] at e2; cases e2
/-- append to a slice of the call's own, of any slice -/
theorem wp_pushG {P : Program} {o : Oper} {a : Act} {W : World} {K : Act → World → Prop} {Q : Exit → Act → World → Prop} {s x : Operand} {ts e k bytes B n m c c1 : Nat} {z : Value} {a1 sa : Option Addr} {xs news : List Value}
    (hu : P.underlying ts = some (.slice e)) (hinfo : (P.info? e).map (fun i => (i.zero, i.size, i.bytes)) = some (some z, k, bytes)) (hzs : z.cells.size = k) (h0 : 0 < k)
    (ho : o.op = .call { callee := .builtin .append, args := #[s, x], argTypes := #[ts, ts] }) (hs : a.eval s = .slice a1 n c1) (hx : a.eval x = .slice sa m c) (hO : OwnR W B e k (.slice a1 n c1) n xs) (hsn : sa = none → m = 0)
    (hl : news.length = m * k) (hnews : ∀ ad, sa = some ad → ∀ j u, news[j]? = some u → W.cell? (ad.add j) = some u) (h1 : (news.all fun u => u.oneCell') = true) (hmax : n + m ≤ 1000000) (hbt : bytes ≤ 1000) (hB : B ≤ W.heap.size)
    (h : ∀ v' w', OwnR w' B e k v' (n + m) (xs ++ news) → Only (fun b => (Value.slice a1 n c1).ownBlock = some b) W w' → (v'.ownBlock = (Value.slice a1 n c1).ownBlock ∨ v'.ownBlock = some W.heap.size) → K (a.put o.dst v') w') : o.wp P a W K Q := by
  cases sa with
  | some ad => exact wp_pushV hu hinfo hzs h0 ho hs hx hO hl (hnews ad rfl) h1 hmax hbt hB h
  | none =>
    have hm := hsn rfl
    subst hm
    have hn0 : news = [] := List.eq_nil_of_length_eq_zero (by omega)
    subst hn0
    obtain ⟨i0, hi, hz0, hz1, hz2⟩ := info_parts hinfo
    have hle : n ≤ c1 := by
      rcases hO.2 with ⟨h2, _⟩ | ⟨b, cap, cur, h1, h2, h3, h4, _⟩
      · injection h2 with _ h2; omega
      · injection h1 with _ _ h1; omega
    have hs2 : Src P i0.size ts (.slice none 0 c) 0 [] W := by
      refine ⟨.inl ⟨e, hu⟩, fun w' => ?_, ?_, ?_, by simp, fun u hu => by simp at hu⟩
      · simp [Builtin.lenOf]
      · simp [Builtin.firstCells, loadCells, loadCellsFrom]
      · simp [Builtin.firstCells, loadCells, loadCellsFrom]
    have hr := run_append_nothing W ts ts o.type e i0 hu hi a1 n c1 hle _ hs2
    have hrun : (execOp a.eval o).run P W = .ok (.value (.slice a1 n c1)) W := by
      unfold execOp
      simp only [ho, resolve, invoke, builtin, Sem.run_bind, Sem.run_pure, Result.andThen_ok, List.map_toArray, List.map_cons, List.map_nil, hs, hx, hr]
    unfold Oper.wp
    rw [hrun]
    exact h _ _ (by rw [List.append_nil]; exact hO) (Only.refl _ _) (.inl rfl)
/-- a region with two calls (a, b) and an append (c) that may turn older memory, whose value is moved on (d) -/
structure RA4 (w : World) (a b c d : Nat) (Ta Tb Tc : Value → World → Prop) (done : Nat → Bool) (u : Nat → Value) (W : World) : Prop where
  g : done c = false → Gr w W
  ga : done a = true → done c = false → Ta (u a) W
  gb : done b = true → done c = false → Tb (u b) W
  gc : done c = true → Tc (u c) W
  gd : done d = true → u d = u c
def ne4 (a b c d : Nat) : Bool := !(a == b || a == c || a == d || b == c || b == d || c == d)
section
variable {w W W' : World} {a b c d i : Nat} {Ta Tb Tc : Value → World → Prop} {done : Nat → Bool} {u : Nat → Value} {v : Value}
theorem ne4_all (h : ne4 a b c d = true) : a ≠ b ∧ a ≠ c ∧ a ≠ d ∧ b ≠ c ∧ b ≠ d ∧ c ≠ d := by
  simp only [ne4, Bool.not_eq_true', Bool.or_eq_false_iff, beq_eq_false_iff_ne] at h
  obtain ⟨⟨⟨⟨⟨h1, h2⟩, h3⟩, h4⟩, h5⟩, h6⟩ := h
  exact ⟨h1, h2, h3, h4, h5, h6⟩
theorem RA4.start {u : Nat → Value} (g : Gr w W) : RA4 w a b c d Ta Tb Tc (fun _ => false) u W := ⟨fun _ => g, fun h => by simp at h, fun h => by simp at h, fun h => by simp at h, fun h => by simp at h⟩
theorem RA4.quiet (h : RA4 w a b c d Ta Tb Tc done u W) (ha : UpV Ta) (hb : UpV Tb) (hc : done c = false) (hd : done d = false) (g : Gr W W') (hi : (i == a || i == b || i == c || i == d) = false) : RA4 w a b c d Ta Tb Tc (upd done i) (fun j => if j = i then v else u j) W' := by
  simp only [Bool.or_eq_false_iff, beq_eq_false_iff_ne] at hi
  obtain ⟨⟨⟨h1, h2⟩, h3⟩, h4⟩ := hi
  have e1 := upd_ne (done := done) (Ne.symm h1)
  have e2 := upd_ne (done := done) (Ne.symm h2)
  have e3 := upd_ne (done := done) (Ne.symm h3)
  have e4 := upd_ne (done := done) (Ne.symm h4)
  refine ⟨fun k => (h.g hc).trans g, fun k0 k1 => ?_, fun k0 k1 => ?_, fun k0 => ?_, fun k0 => ?_⟩
  · have := ha _ _ _ (h.ga (e1 ▸ k0) hc) g; simpa [Ne.symm h1] using this
  · have := hb _ _ _ (h.gb (e2 ▸ k0) hc) g; simpa [Ne.symm h2] using this
  · rw [e3, hc] at k0; cases k0
  · rw [e4, hd] at k0; cases k0
theorem RA4.sa (h : RA4 w a b c d Ta Tb Tc done u W) (hn : ne4 a b c d = true) (hb : UpV Tb) (hc : done c = false) (hd : done d = false) (g : Gr W W') (ht : Ta v W') : RA4 w a b c d Ta Tb Tc (upd done a) (fun j => if j = a then v else u j) W' := by
  obtain ⟨n1, n2, n3, _⟩ := ne4_all hn
  have e1 := upd_ne (done := done) (Ne.symm n1)
  have e2 := upd_ne (done := done) (Ne.symm n2)
  have e3 := upd_ne (done := done) (Ne.symm n3)
  refine ⟨fun _ => (h.g hc).trans g, fun _ _ => by simpa using ht, fun k0 k1 => ?_, fun k => ?_, fun k => ?_⟩
  · have := hb _ _ _ (h.gb (e1 ▸ k0) hc) g; simpa [Ne.symm n1] using this
  · rw [e2, hc] at k; cases k
  · rw [e3, hd] at k; cases k
theorem RA4.sb (h : RA4 w a b c d Ta Tb Tc done u W) (hn : ne4 a b c d = true) (ha : UpV Ta) (hc : done c = false) (hd : done d = false) (g : Gr W W') (ht : Tb v W') : RA4 w a b c d Ta Tb Tc (upd done b) (fun j => if j = b then v else u j) W' := by
  obtain ⟨n1, _, _, n4, n5, _⟩ := ne4_all hn
  have e1 := upd_ne (done := done) n1
  have e2 := upd_ne (done := done) (Ne.symm n4)
  have e3 := upd_ne (done := done) (Ne.symm n5)
  refine ⟨fun _ => (h.g hc).trans g, fun k0 k1 => ?_, fun _ _ => by simpa using ht, fun k => ?_, fun k => ?_⟩
  · have := ha _ _ _ (h.ga (e1 ▸ k0) hc) g; simpa [n1] using this
  · rw [e2, hc] at k; cases k
  · rw [e3, hd] at k; cases k
theorem RA4.sc (hn : ne4 a b c d = true) (hd : done d = false) (ht : Tc v W') : RA4 w a b c d Ta Tb Tc (upd done c) (fun j => if j = c then v else u j) W' := by
  obtain ⟨_, _, _, _, _, n6⟩ := ne4_all hn
  have e3 := upd_ne (done := done) (Ne.symm n6)
  refine ⟨fun k => ?_, fun _ k => ?_, fun _ k => ?_, fun _ => by simpa using ht, fun k => ?_⟩
  · rw [upd_self] at k; cases k
  · rw [upd_self] at k; cases k
  · rw [upd_self] at k; cases k
  · rw [e3, hd] at k; cases k
theorem RA4.sd (hn : ne4 a b c d = true) (hc : done c = true) (h : RA4 w a b c d Ta Tb Tc done u W) : RA4 w a b c d Ta Tb Tc (upd done d) (fun j => if j = d then u c else u j) W := by
  obtain ⟨_, _, _, _, _, n6⟩ := ne4_all hn
  have e3 := upd_ne (done := done) n6
  refine ⟨fun k => ?_, fun _ k => ?_, fun _ k => ?_, fun _ => ?_, fun _ => ?_⟩
  · rw [e3, hc] at k; cases k
  · rw [e3, hc] at k; cases k
  · rw [e3, hc] at k; cases k
  · simpa [n6] using h.gc hc
  · simp [n6]
end
/-- how many there are -/
theorem flatN_len {α : Type} {f : Nat → List α} {k : Nat} : ∀ {n : Nat}, (∀ h, h < n → (f h).length ≤ k) → (flatN f n).length ≤ n * k := by
  intro n
  induction n with
  | zero => intro _; simp [flatN]
  | succ n ih =>
    intro h
    have h1 := ih (fun i hi => h i (by omega))
    have h2 := h n (by omega)
    simp only [flatN, List.length_append]
    rw [Nat.add_mul]; omega
theorem allF_len {nh : Nat} {hope : List Int → Bool} (h4 : nh ≤ 4) : ∀ (m : Nat) (xs : List Int), (allF nh hope m xs).length ≤ 4 ^ m := by
  intro m
  induction m with
  | zero =>
    intro xs
    unfold allF
    split <;> simp
  | succ m ih =>
    intro xs
    unfold allF
    split
    · simp
    · have h1 := flatN_len (f := fun h : Nat => allF nh hope m (xs ++ [(h : Int)])) (k := 4 ^ m) (n := nh) (fun h _ => ih _)
      have h2 := Nat.mul_le_mul_right (4 ^ m) h4
      rw [Nat.pow_succ]; omega
theorem pow_le {m : Nat} (h : m ≤ 5) : 4 ^ m ≤ 1024 := by
  have : m = 0 ∨ m = 1 ∨ m = 2 ∨ m = 3 ∨ m = 4 ∨ m = 5 := by omega
  rcases this with rfl | rfl | rfl | rfl | rfl | rfl <;> decide
theorem all_hope {nh : Nat} {hope : List Int → Bool} {m : Nat} {xs : List Int} (h : hope xs = true) : allF nh hope m xs = [] := by
  cases m <;> simp [allF, h]
theorem all_in {nh : Nat} {hope : List Int → Bool} {m : Nat} {xs : List Int} (h : hope xs = false) : allF nh hope (m + 1) xs = flatN (fun h => allF nh hope m (xs ++ [(h : Int)])) nh := by
  simp [allF, h]
theorem all_leaf {nh : Nat} {hope : List Int → Bool} {xs : List Int} (h : hope xs = false) : allF nh hope 0 xs = [xs] := by
  simp [allF, h]
theorem Try.bs38_1 (a : Option Addr) (n c : Nat) (w : World) : (Instr.buildSlice 38 1 #[(0, .slice a n c)]).run Try.prog w = .ok (.slice (some ⟨w.heap.size, 0, none⟩) 1 1) (w.alloc (.cells #[.slice a n c] 34)) := by kernel_rfl
/-- one row that a call makes of a slice -/
theorem rw_one {W : World} {B b c : Nat} {a : Option Addr} {xs : List Int} (h : W.heap[b]? = some (.cells #[.slice a xs.length c] 34)) (hB : B ≤ b) (hi : Ints W a xs.length xs) (hn : ∀ ad, a = some ad → ad.block < b) : RwAt W B (.slice (some ⟨b, 0, none⟩) 1 1) [⟨xs, a, c⟩] :=
  ⟨⟨rfl, .inr ⟨b, 1, #[.slice a xs.length c], rfl, hB, h, Nat.le_refl _, by unfold maxLen; decide, rfl, rfl⟩⟩, fun x hx => by simp at hx; subst hx; exact hi, fun x hx ad e => by
    simp at hx; subst hx
    have h1 := hn ad e
    have h2 := (Array.getElem?_eq_some_iff.1 h).1
    exact ⟨fun e2 => by simp [Value.ownBlock] at e2; omega, by omega⟩⟩
end
section
set_option linter.unusedVariables false
open Go.RowKit
section
variable {α : Type}
end
theorem srtK_len (key : List Int → Int × Int) (l : List (List Int)) : (srtK key l).length = l.length := by
  have h : ∀ (l : List (List Int)) (s : List ((Int × Int) × List Int)), (l.foldl (fun s x => insR s (key x, x)) s).length = s.length + l.length := by
    intro l
    induction l with
    | nil => intro s; simp
    | cons a l ih => intro s; simp only [List.foldl_cons, List.length_cons]; rw [ih, insR_len]; omega
  unfold srtK; rw [h]; simp
section
variable {p : Pb} {E : List BegE} {i b : Nat} {x y : BegE}
end
/-- what is in the search's list -/
theorem mem_all {p : Pb} {hope : List Int → Bool} : ∀ (m : Nat) (xs : List Int), HosOk p xs → ∀ x ∈ allF p.nh hope m xs, HosOk p x ∧ x.length = xs.length + m ∧ hope x = false := by
  intro m
  induction m with
  | zero =>
    intro xs h x hx
    unfold allF at hx
    split at hx
    · simp at hx
    · simp at hx; subst hx; rename_i hh; exact ⟨h, rfl, by cases e : hope x with | true => exact absurd e hh | false => rfl⟩
  | succ m ih =>
    intro xs h x hx
    unfold allF at hx
    split at hx
    · simp at hx
    · obtain ⟨k, hk, hx⟩ := flatN_mem.1 hx
      obtain ⟨h1, h2, h3⟩ := ih _ (h.app hk) x hx
      exact ⟨h1, by simp at h2; omega, h3⟩
theorem mem_allP {p : Pb} {x : List Int} (h : x ∈ allP p) : HosOk p x ∧ x.length = p.nt ∧ hopeB p (tim p) x = false := by
  obtain ⟨h1, h2, h3⟩ := mem_all p.nt [] HosOk.nil x h
  exact ⟨h1, by simpa using h2, h3⟩
theorem Ints.nilZ (w : World) : Ints w none ([] : List Int).length [] := ⟨rfl, by decide, fun j hj => by simp at hj⟩
end
section
set_option linter.unusedVariables false
open Go.RowKit
section
variable {w W W' : World} {a b c d e f i : Nat} {Ta Tb Tc Td Te : Value → World → Prop} {done : Nat → Bool} {u : Nat → Value} {v : Value}
end
def TiR (B e n : Nat) (xs : List Value) (v : Value) (W : World) : Prop := ∃ a c, v = .slice a n c ∧ OwnR W B e 1 (.slice a n c) n xs
def TiC (e : Nat) (x : Value) (v : Value) (W : World) : Prop := ∃ g, v = .slice (some ⟨g, 0, none⟩) 1 1 ∧ W.heap[g]? = some (.cells #[x] e)
theorem TiR.up (B e n : Nat) (xs : List Value) : UpV (TiR B e n xs) := fun v W W2 ⟨a, c, h1, h2⟩ g => ⟨a, c, h1, h2.gr g⟩
theorem TiC.up (e : Nat) (x : Value) : UpV (TiC e x) := fun v W W2 ⟨q, h1, h2⟩ g => ⟨q, h1, (g.below.block _ (Array.getElem?_eq_some_iff.1 h2).1).trans h2⟩
/-- rows, to be read -/
def RrAt (W : World) (a : Option Addr) (E : List BegE) : Prop := ∀ i x, E[i]? = some x → ∃ ad, a = some ad ∧ W.cell? (ad.add i) = some (.slice x.a x.xs.length x.c) ∧ Ints W x.a x.xs.length x.xs
end
section
set_option linter.unusedVariables false
open Go.RowKit
section
variable {cb : Nat} {s : Int} {O Kp : Nat → Prop} {W W' : World}
end
theorem RwAt.rr {W : World} {B c : Nat} {a : Option Addr} {E : List BegE} (h : RwAt W B (.slice a E.length c) E) : RrAt W a E := fun i x hx => by
  obtain ⟨g, rfl, _⟩ := h.ex (by have := (List.getElem?_eq_some_iff.1 hx).1; omega)
  exact ⟨_, rfl, by rw [addr_add0]; exact h.cell hx, h.i x (List.mem_of_getElem? hx)⟩
end
section
open Go.RowKit

section
variable {p : Pb} {xs : List Int} {wh : Bool}
end
section
variable {p : Pb} {xs : List Int}
theorem hund_100 (p : Pb) : hund p 100 = tim p := by
  funext i; unfold hund tim; omega
end
end
section
set_option linter.unusedVariables false
open Go.RowKit
def usesB (xs : List Int) (h : Int) : Bool := usedN xs h xs.length
section
variable (ok : List Int → Bool) (dif : List Int → Int)
end
end
section
open Go.RowKit

theorem Ints.nil0 (w : World) : Ints w none 0 [] := ⟨rfl, by decide, fun j hj => by omega⟩
set_option maxRecDepth 100000 in
set_option maxHeartbeats 2000000 in
theorem best_any (p : Pb) (ta ha ba la : Option Addr) (tc hc bc lc : Nat) (w : World) (hP : PbAt w p ta ha ba la tc hc bc lc) :
  Calls Try.prog 22 #[.agg #[.slice ta p.nt tc, .slice ha p.nh hc, .slice ba p.nb bc, .slice la p.nl lc]] w fun e w' => ∃ a c, e = .returned (.tuple #[.slice a (bestR p).1.length c, Vi (bestR p).2.1, Vi (bestR p).2.2]) ∧ Ints w' a (bestR p).1.length (bestR p).1 ∧ ((bestR p).1.length = 0 → a = none ∧ c = 0) ∧ Gr w w' := by
 have G := Gr.refl w
 have hpt := hP.t
 have hph := hP.h
 have hpb := hP.b
 have hpl := hP.l
 have hplen := hP.len
 obtain ⟨hn1, hn2, hn3, hn4⟩ := hplen
 have hcp1 := hpt.cap
 have hcp2 := hph.cap
 have hcp3 := hpb.cap
 have hcp4 := hpl.cap
 refine Y.calls 33 Try.func22 rfl rfl ?_
 intro ac F0
 have F : Fr ac 33 [(0, .agg #[.slice ta p.nt tc, .slice ha p.nh hc, .slice ba p.nb bc, .slice la p.nl lc])] := F0.sub _
 clear F0
 refine Y.sl ?_
 have hgs3 : w.heap.size ≤ w.heap.size := G.size
 refine Y.pv F (X.box rfl (F.ev 0 (.agg #[.slice ta p.nt tc, .slice ha p.nh hc, .slice ba p.nb bc, .slice la p.nl lc])) X.bx) ?_;clear F ac;intro ac F
 have hgs5 : w.heap.size ≤ w.heap.size := G.size
 obtain ⟨w6, hw_, g, hb, hbl, hC2⟩ := Y.bxd (RCells.nil w) #[.slice ta p.nt tc, .slice ha p.nh hc, .slice ba p.nb bc, .slice la p.nl lc] 27;rw [hw_];clear hw_
 replace G := G.trans g
 have hC := hC2
 clear hC2
 replace hpt := hpt.gr g
 replace hph := hph.gr g
 replace hpb := hpb.gr g
 replace hpl := hpl.gr g
 have hsz4 := hbl
 clear g hb hbl
 refine Y.pv3 F (X.assign rfl (X.kc (.slice none 0 0) rfl)) (fun _ F=>X.assign rfl (X.kc (Vi 0) rfl)) (fun _ F=>X.assign rfl (X.kc (Vi 0) rfl)) ?_;clear F ac;intro ac F
 refine Y.nt F [(1, Vp w.heap.size)] ?_;clear F ac;intro ac F
 refine Y.seq ?_
 refine Y.sl ?_
 refine Y.pv F (X.load rfl (F.ev 1 (Vp w.heap.size)) (X.ldN (Try.agg27 _) (Try.siz27 _) (Y.atz (⟨w.heap.size, 0, none⟩) (Y.AtFrom.cons (hC.at 0 rfl) (Y.AtFrom.cons (hC.at 1 rfl) (Y.AtFrom.cons (hC.at 2 rfl) (Y.AtFrom.cons (hC.at 3 rfl) (Y.AtFrom.nil _ _ _)))))))) ?_;clear F ac;intro ac F
 refine Y.pc F 18 (X.a1 (F.ev 7 (.agg #[.slice ta p.nt tc, .slice ha p.nh hc, .slice ba p.nb bc, .slice la p.nl lc]))) Try.func18 (check_any p ta ha ba la tc hc bc lc w6 (hP.gr G)) ?_
 clear F ac
 rintro e w7 ⟨rfl, g⟩
 refine ⟨_, rfl, ?_⟩
 intro ac F
 replace G := G.trans g
 replace hC := hC.gr g
 replace hpt := hpt.gr g
 replace hph := hph.gr g
 replace hpb := hpb.gr g
 replace hpl := hpl.gr g
 clear g
 refine Y.pv F (X.assign rfl (F.ev 8 (Vi (chkE p)))) ?_;clear F ac;intro ac F
 refine Y.nt F [(1, Vp w.heap.size), (5, Vi (chkE p))] ?_;clear F ac;intro ac F
 refine Y.sg F [(1, Vp w.heap.size), (5, Vi (chkE p)), (10, .bool ((chkE p : Int) != 0))] (Y.pv F (X.move rfl (F.ev 5 (Vi (chkE p)))) fun ac F=>Y.pv F (X.binop rfl (F.ev 9 (Vi (chkE p))) (X.kc (Vi 0) rfl) (X.neqI Try.underlying31 rfl)) fun ac F=>Y.fin F) ?_;clear F ac;intro ac F
 cases h8 : ((chkE p : Int) != 0) with
 | false =>
  try rw [h8] at F
  have h8p : (chkE p : Int) = 0 := by simpa using h8
  have hck : chkE p = 0 := by omega
  have hp := chk_ok hck
  refine Y.condF (F.ev 10 (.bool false)) ?_
  refine Y.skip ?_
  refine X.thenN ?_
  refine Y.sl ?_
  refine Y.pv F (X.load rfl (F.ev 1 (Vp w.heap.size)) (X.ldN (Try.agg27 _) (Try.siz27 _) (Y.atz (⟨w.heap.size, 0, none⟩) (Y.AtFrom.cons (hC.at 0 rfl) (Y.AtFrom.cons (hC.at 1 rfl) (Y.AtFrom.cons (hC.at 2 rfl) (Y.AtFrom.cons (hC.at 3 rfl) (Y.AtFrom.nil _ _ _)))))))) ?_;clear F ac;intro ac F
  refine Y.pc F 64 (X.a3 (F.ev 12 (.agg #[.slice ta p.nt tc, .slice ha p.nh hc, .slice ba p.nb bc, .slice la p.nl lc])) (X.kc (Vi 1) rfl) (X.kc (.func (.func 65) #[] #[]) rfl)) Try.func64 (first_any p ta ha ba la tc hc bc lc 1 65 #[] stillF w7 (hP.gr G) hp (by decide) (enters_of Try.func65 (by kernel_rfl) rfl) (fun W xs a c g hi hl hx => still_any a xs.length c W)) ?_
  clear F ac
  have hfG := G
  rintro e w9 ⟨rb, kv, lv, L, B, rfl, hRk, hV, hrb, hBw, hLm, g⟩
  refine ⟨_, rfl, ?_⟩
  intro ac F
  replace G := G.trans g
  replace hC := hC.gr g
  replace hpt := hpt.gr g
  replace hph := hph.gr g
  replace hpb := hpb.gr g
  replace hpl := hpl.gr g
  clear g
  rw [still_law hp (by decide)] at hV
  injection hV with hV
  replace hV := hV.symm
  obtain ⟨ka, kc, rfl⟩ := hRk.k.form
  obtain ⟨la9, lc9, rfl⟩ := hRk.l.form
  refine Y.pv F (X.assign rfl (F.ev 13 (Vp rb))) ?_;clear F ac;intro ac F
  refine Y.nt F [(6, Vp rb)] ?_;clear F ac;intro ac F
  refine Y.seq ?_
  refine Y.sl ?_
  refine Y.pv3 F (X.move rfl (F.ev 6 (Vp rb))) (fun _ F=>Y.nilC rfl (F.ev 14 (Vp rb))) (fun _ F=>X.field rfl (F.ev 15 (Vp rb)) (X.fld Try.underlying91 rfl (Try.siz38 _) rfl rfl)) ?_;clear F ac;intro ac F
  replace hC := hC.append (show RCells w9 (bcells rb [Vi (1 : Nat), .slice ka L.length kc, .slice la9 L.length lc9] 0) from (RCells.cons (hRk.own.cell (k := 0) (by decide)) (RCells.cons (hRk.own.cell (k := 1) (by decide)) (RCells.cons (hRk.own.cell (k := 2) (by decide)) (RCells.nil _)))))
  refine Y.pv3 F (X.load rfl (F.ev 16 (.pointer (some ⟨rb, 2, none⟩))) (X.ld1 (Try.agg38 _) (hC.at 6 rfl))) (fun _ F=>X.len1 Try.underlying38 rfl (F.ev 17 (.slice la9 L.length lc9))) (fun _ F=>X.binop rfl (F.ev 18 (Vi L.length)) (X.kc (Vi 0) rfl) (X.eqlI Try.underlying3 rfl)) ?_;clear F ac;intro ac F
  refine Y.nt F [(6, Vp rb), (19, .bool ((L.length : Int) == 0))] ?_;clear F ac;intro ac F
  cases h10 : ((L.length : Int) == 0) with
  | false =>
   try rw [h10] at F
   have h10p : ¬ (L.length : Int) = 0 := by simpa using h10
   obtain ⟨y, hy⟩ : ∃ y, L[0]? = some y := ⟨_, List.getElem?_eq_getElem (by omega)⟩
   obtain ⟨g9, Lr, rfl, -⟩ := hRk.k.row (by omega)
   obtain ⟨g8, Lr8, rfl, -⟩ := hRk.l.row (by omega)
   have hkc := keys_cell hRk.k rfl hy
   have hlc := begs_cell hRk.l rfl hy
   have hyb := hRk.b y (List.mem_of_getElem? hy)
   replace hC := hC.append (show RCells w9 ([(⟨g9, 0 * 2, none⟩, Vi y.1.1), (⟨g9, 0 * 2 + 1, none⟩, Vi y.1.2), (Ad g8 0, .slice y.2.a y.2.xs.length y.2.c)]) from (RCells.cons hkc.1 (RCells.cons hkc.2 (RCells.cons hlc (RCells.nil _)))))
   refine Y.condF (F.ev 19 (.bool false)) ?_
   refine Y.skip ?_
   refine X.thenN ?_
   refine Y.seq ?_
   refine Y.region F [some (Vp rb), some (Vp rb), some (.pointer (some ⟨rb, 2, none⟩)), some (.slice (some ⟨g8, 0, none⟩) L.length lc9), some (Vp g8), some (.slice y.2.a y.2.xs.length y.2.c), some (Vp rb), some (Vp rb), some (.pointer (some ⟨rb, 1, none⟩)), some (.slice (some ⟨g9, 0, none⟩) L.length kc), some (.pointer (some ⟨g9, 0 * 2, none⟩)), some (.pointer (some ⟨g9, 0 * 2 + 1, none⟩)), some (Vi y.1.2), some (.slice y.2.a y.2.xs.length y.2.c), some (Vi y.1.2), some (Vi 0)] [] rfl ⟨by kernel_rfl, of_decide_eq_true (by kernel_rfl), by kernel_rfl, by kernel_rfl, by kernel_rfl⟩ ⟨?_, ?_, ?_, ?_, ?_, ?_, ?_, ?_, ?_, ?_, ?_, ?_, ?_, ?_, ?_, ?_, trivial⟩ ?_
   ·intro ac done u W Sx hR
    exact X.vl (X.move rfl (Sx.ev 6 (Vp rb))) hR.st0
   ·intro ac done u W Sx hR
    exact X.vl (Y.nilC rfl (Sx.ev 20 (Vp rb))) hR.st0
   ·intro ac done u W Sx hR
    exact X.vl (X.field rfl (Sx.ev 21 (Vp rb)) (X.fld Try.underlying91 rfl (Try.siz38 _) rfl rfl)) hR.st0
   ·intro ac done u W Sx hR
    have g : Gr w9 W := hR.1
    exact X.vl (X.load rfl (Sx.ev 22 (.pointer (some ⟨rb, 2, none⟩))) (X.ld1 (Try.agg38 _) ((hC.gr g).at 6 rfl))) hR.st0
   ·intro ac done u W Sx hR
    exact X.vl (X.index rfl (Sx.ev 23 (.slice (some ⟨g8, 0, none⟩) L.length lc9)) (X.kc (Vi 0) rfl) (X.idx (k := 0) Try.underlying38 (Try.siz34 _) (by omega) (by omega) (addr_add0 _ _))) hR.st0
   ·intro ac done u W Sx hR
    have g : Gr w9 W := hR.1
    exact X.vl (X.load rfl (Sx.ev 24 (Vp g8)) (X.ld1 (Try.agg34 _) ((hC.gr g).at 9 rfl))) hR.st0
   ·intro ac done u W Sx hR
    exact X.vl (X.move rfl (Sx.ev 6 (Vp rb))) hR.st0
   ·intro ac done u W Sx hR
    exact X.vl (Y.nilC rfl (Sx.ev 26 (Vp rb))) hR.st0
   ·intro ac done u W Sx hR
    exact X.vl (X.field rfl (Sx.ev 27 (Vp rb)) (X.fld Try.underlying91 rfl (Try.siz89 _) rfl rfl)) hR.st0
   ·intro ac done u W Sx hR
    have g : Gr w9 W := hR.1
    exact X.vl (X.load rfl (Sx.ev 28 (.pointer (some ⟨rb, 1, none⟩))) (X.ld1 (Try.agg89 _) ((hC.gr g).at 5 rfl))) hR.st0
   ·intro ac done u W Sx hR
    exact X.vl (X.index rfl (Sx.ev 29 (.slice (some ⟨g9, 0, none⟩) L.length kc)) (X.kc (Vi 0) rfl) (X.idx (k := 0) Try.underlying89 (Try.siz92 _) (by omega) (by omega) (addr_add0 _ _))) hR.st0
   ·intro ac done u W Sx hR
    exact X.vl (X.index rfl (Sx.ev 30 (.pointer (some ⟨g9, 0 * 2, none⟩))) (X.kc (Vi 1) rfl) (Y.idxA (k := 1) Try.underlying92 (Try.siz3 _) (by decide) (by omega) (by omega) rfl)) hR.st0
   ·intro ac done u W Sx hR
    have g : Gr w9 W := hR.1
    exact X.vl (X.load rfl (Sx.ev 31 (.pointer (some ⟨g9, 0 * 2 + 1, none⟩))) (X.ld1 (Try.agg3 _) ((hC.gr g).at 8 rfl))) hR.st0
   ·intro ac done u W Sx hR
    exact X.vl (X.assign rfl (Sx.ev 25 (.slice y.2.a y.2.xs.length y.2.c))) hR.st0
   ·intro ac done u W Sx hR
    exact X.vl (X.assign rfl (Sx.ev 32 (Vi y.1.2))) hR.st0
   ·intro ac done u W Sx hR
    exact X.vl (X.assign rfl (X.kc (Vi 0) rfl)) hR.st0
   intro ac u w11 hs hd hl ho hR
   have g : Gr w9 w11 := hR.1
   replace F : Fr ac 33 [(2, .slice y.2.a y.2.xs.length y.2.c), (3, Vi y.1.2), (4, Vi 0)] := X.fr hs hd hl _ (by kernel_rfl)
   clear hs hd hl ho hR
   replace G := G.trans g
   replace hC := hC.gr g
   replace hpt := hpt.gr g
   replace hph := hph.gr g
   replace hpb := hpb.gr g
   replace hpl := hpl.gr g
   replace hRk := hRk.gr g
   clear g
   refine X.thenN ?_
   refine Y.ret ?_
   have hb := best_3 hck hV hy
   exact Y.ret0 (v := .tuple #[.slice y.2.a y.2.xs.length y.2.c, Vi y.1.2, Vi 0]) F (Y.rs3 F rfl (by kernel_rfl) (by kernel_rfl) (by kernel_rfl)) ⟨y.2.a, y.2.c, by rw [hb], by rw [hb]; exact (hRk.b y (List.mem_of_getElem? hy)).i, by rw [hb]; exact hyb.nil, G⟩
  | true =>
   try rw [h10] at F
   have h10p : (L.length : Int) = 0 := by simpa using h10
   refine Y.condT (F.ev 19 (.bool true)) ?_
   refine Y.sg F [(2, .slice none 0 0), (3, Vi 0), (4, Vi 3)] (Y.pv F (X.assign rfl (X.kc (.slice none 0 0) rfl)) fun ac F=>Y.pv F (X.assign rfl (X.kc (Vi 0) rfl)) fun ac F=>Y.pv F (X.assign rfl (X.kc (Vi 3) rfl)) fun ac F=>Y.fin F) ?_;clear F ac;intro ac F
   refine Y.ret ?_
   refine X.thenR ?_
   have hb := best_2 hck hV (by omega)
   exact Y.ret0 (v := .tuple #[.slice none 0 0, Vi 0, Vi 3]) F (Y.rs3 F rfl (by kernel_rfl) (by kernel_rfl) (by kernel_rfl)) ⟨none, 0, by rw [hb]; rfl, by rw [hb]; exact Ints.nil0 _, by rw [hb]; exact fun _ => ⟨rfl, rfl⟩, G⟩
 | true =>
  try rw [h8] at F
  have h8p : ¬ (chkE p : Int) = 0 := by simpa using h8
  refine Y.condT (F.ev 10 (.bool true)) ?_
  refine Y.sg F [(2, .slice none 0 0), (3, Vi 0), (4, Vi (chkE p))] (Y.pv F (X.move rfl (F.ev 5 (Vi (chkE p)))) fun ac F=>Y.pv F (X.assign rfl (X.kc (.slice none 0 0) rfl)) fun ac F=>Y.pv F (X.assign rfl (X.kc (Vi 0) rfl)) fun ac F=>Y.pv F (X.assign rfl (F.ev 11 (Vi (chkE p)))) fun ac F=>Y.fin F) ?_;clear F ac;intro ac F
  refine Y.ret ?_
  refine X.thenR ?_
  have hb := best_1 (p := p) (by omega)
  exact Y.ret0 (v := .tuple #[.slice none 0 0, Vi 0, Vi (chkE p)]) F (Y.rs3 F rfl (by kernel_rfl) (by kernel_rfl) (by kernel_rfl)) ⟨none, 0, by rw [hb]; rfl, by rw [hb]; exact Ints.nil0 _, by rw [hb]; exact fun _ => ⟨rfl, rfl⟩, G⟩
end
section
open Go.RowKit

/-- the problem of the examples -/
def exP : Pb where
  nt := 2
  nh := 2
  nb := 0
  nl := 1
  tn := fun i => if i = 0 then ⟨#[97]⟩ else ⟨#[98]⟩
  tv := fun i r => (([[0, 2, 3, 0], [0, 1, 3, 2]] : List (List Int))[i]?.getD [])[r]?.getD 0
  hn := fun i => if i = 0 then ⟨#[120]⟩ else ⟨#[121]⟩
  hv := fun i r => (([[0, 4, 5, 2, 0, 10], [0, 2, 5, 0, 1, 4]] : List (List Int))[i]?.getD [])[r]?.getD 0
  bv := fun _ _ => 0
  lv := fun _ r => ([0, 1, 3] : List Int)[r]?.getD 0
theorem ex_best : bestR exP = ([1, 0], 20, 0) := by kernel_rfl
theorem TbAt.only {S : Nat → Prop} {w w' : World} {k : Nat} {a : Option Addr} {n c : Nat} {V : Nat → Nat → Value} (h : TbAt w k a n c V) (g : Only S w w') (hn : ∀ ad, a = some ad → ¬ S ad.block) : TbAt w' k a n c V :=
  ⟨h.1, h.2.1, fun j hj => by
    obtain ⟨ad, e, hb, hc⟩ := h.2.2 j hj
    exact ⟨ad, e, Nat.lt_of_lt_of_le hb g.size, fun r hr => g.cell (hc r hr) (by rw [add_block, add_block]; exact hn ad e)⟩⟩
theorem TbAt.nil (w : World) (k c : Nat) (a : Option Addr) (V : Nat → Nat → Value) : TbAt w k a 0 c V := ⟨Nat.zero_le _, by simp, fun j hj => by omega⟩
theorem tb_new {W : World} {b k n : Nat} {V : Nat → Nat → Value} {cs : List Value} {t : TypeId} (h : W.heap[b]? = some (.cells cs.toArray t)) (hn : n * k * 8 ≤ 140737488351232) (hc : ∀ j r, j < n → r < k → cs[j * k + r]? = some (V j r)) : TbAt W k (some ⟨b, 0, none⟩) n n V :=
  ⟨Nat.le_refl _, hn, fun j hj => ⟨_, rfl, (Array.getElem?_eq_some_iff.1 h).1, fun r hr => by
    rw [addr_add0, show (⟨b, j * k, none⟩ : Addr).add r = ⟨b, j * k + r, none⟩ from Y.addr_add _ _ _]
    exact cell_at h (by simpa using hc j r hj hr)⟩⟩
theorem exT_at {W : World} {b : Nat} (h : W.heap[b]? = some (.cells #[.string ⟨#[97]⟩, .int .i64 2, .int .i64 3, .int .i64 0, .string ⟨#[98]⟩, .int .i64 1, .int .i64 3, .int .i64 2] 74)) : TbAt W 4 (some ⟨b, 0, none⟩) 2 2 (tvV exP) := tb_new (cs := [.string ⟨#[97]⟩, .int .i64 2, .int .i64 3, .int .i64 0, .string ⟨#[98]⟩, .int .i64 1, .int .i64 3, .int .i64 2]) h (by decide) (fun j r hj hr => by
  have h1 : j = 0 ∨ j = 1 := by omega
  have h2 : r = 0 ∨ r = 1 ∨ r = 2 ∨ r = 3 := by omega
  rcases h1 with rfl | rfl <;> rcases h2 with rfl | rfl | rfl | rfl <;> rfl)
theorem exH_at {W : World} {b : Nat} (h : W.heap[b]? = some (.cells #[.string ⟨#[120]⟩, .int .i64 4, .int .i64 5, .int .i64 2, .int .i64 0, .int .i64 10, .string ⟨#[121]⟩, .int .i64 2, .int .i64 5, .int .i64 0, .int .i64 1, .int .i64 4] 53)) : TbAt W 6 (some ⟨b, 0, none⟩) 2 2 (hvV exP) := tb_new (cs := [.string ⟨#[120]⟩, .int .i64 4, .int .i64 5, .int .i64 2, .int .i64 0, .int .i64 10, .string ⟨#[121]⟩, .int .i64 2, .int .i64 5, .int .i64 0, .int .i64 1, .int .i64 4]) h (by decide) (fun j r hj hr => by
  have h1 : j = 0 ∨ j = 1 := by omega
  have h2 : r = 0 ∨ r = 1 ∨ r = 2 ∨ r = 3 ∨ r = 4 ∨ r = 5 := by omega
  rcases h1 with rfl | rfl <;> rcases h2 with rfl | rfl | rfl | rfl | rfl | rfl <;> rfl)
theorem exL_at {W : World} {b : Nat} (h : W.heap[b]? = some (.cells #[.int .i64 0, .int .i64 1, .int .i64 3] 84)) : TbAt W 3 (some ⟨b, 0, none⟩) 1 1 (lvV exP) := tb_new (cs := [.int .i64 0, .int .i64 1, .int .i64 3]) h (by decide) (fun j r hj hr => by
  obtain rfl : j = 0 := by omega
  have h2 : r = 0 ∨ r = 1 ∨ r = 2 := by omega
  rcases h2 with rfl | rfl | rfl <;> rfl)
theorem Try.exT0 (w : World) : (Instr.build 74 #[(0, .string ⟨#[97]⟩), (1, .int .i64 2), (2, .int .i64 3)]).run Try.prog w = .ok (.agg #[.string ⟨#[97]⟩, .int .i64 2, .int .i64 3, .int .i64 0]) w := by kernel_rfl
theorem Try.exT1 (w : World) : (Instr.build 74 #[(0, .string ⟨#[98]⟩), (1, .int .i64 1), (2, .int .i64 3), (3, .int .i64 2)]).run Try.prog w = .ok (.agg #[.string ⟨#[98]⟩, .int .i64 1, .int .i64 3, .int .i64 2]) w := by kernel_rfl
theorem Try.exH0 (w : World) : (Instr.build 53 #[(0, .string ⟨#[120]⟩), (1, .int .i64 4), (2, .int .i64 5), (3, .int .i64 2), (5, .int .i64 10)]).run Try.prog w = .ok (.agg #[.string ⟨#[120]⟩, .int .i64 4, .int .i64 5, .int .i64 2, .int .i64 0, .int .i64 10]) w := by kernel_rfl
theorem Try.exH1 (w : World) : (Instr.build 53 #[(0, .string ⟨#[121]⟩), (1, .int .i64 2), (2, .int .i64 5), (4, .int .i64 1), (5, .int .i64 4)]).run Try.prog w = .ok (.agg #[.string ⟨#[121]⟩, .int .i64 2, .int .i64 5, .int .i64 0, .int .i64 1, .int .i64 4]) w := by kernel_rfl
theorem Try.exL0 (w : World) : (Instr.build 84 #[(0, .int .i64 0), (1, .int .i64 1), (2, .int .i64 3)]).run Try.prog w = .ok (.agg #[.int .i64 0, .int .i64 1, .int .i64 3]) w := by kernel_rfl
theorem Try.exsT (w : World) : (Instr.buildSlice 22 2 #[(0, .agg #[.string ⟨#[97]⟩, .int .i64 2, .int .i64 3, .int .i64 0]), (1, .agg #[.string ⟨#[98]⟩, .int .i64 1, .int .i64 3, .int .i64 2])]).run Try.prog w = .ok (.slice (some ⟨w.heap.size, 0, none⟩) 2 2) (w.alloc (.cells #[.string ⟨#[97]⟩, .int .i64 2, .int .i64 3, .int .i64 0, .string ⟨#[98]⟩, .int .i64 1, .int .i64 3, .int .i64 2] 74)) := by kernel_rfl
theorem Try.exsH (w : World) : (Instr.buildSlice 23 2 #[(0, .agg #[.string ⟨#[120]⟩, .int .i64 4, .int .i64 5, .int .i64 2, .int .i64 0, .int .i64 10]), (1, .agg #[.string ⟨#[121]⟩, .int .i64 2, .int .i64 5, .int .i64 0, .int .i64 1, .int .i64 4])]).run Try.prog w = .ok (.slice (some ⟨w.heap.size, 0, none⟩) 2 2) (w.alloc (.cells #[.string ⟨#[120]⟩, .int .i64 4, .int .i64 5, .int .i64 2, .int .i64 0, .int .i64 10, .string ⟨#[121]⟩, .int .i64 2, .int .i64 5, .int .i64 0, .int .i64 1, .int .i64 4] 53)) := by kernel_rfl
theorem Try.exsL (w : World) : (Instr.buildSlice 25 1 #[(0, .agg #[.int .i64 0, .int .i64 1, .int .i64 3])]).run Try.prog w = .ok (.slice (some ⟨w.heap.size, 0, none⟩) 1 1) (w.alloc (.cells #[.int .i64 0, .int .i64 1, .int .i64 3] 84)) := by kernel_rfl
theorem Try.bd27 (a b c : Option Addr) (n1 c1 n2 c2 n3 c3 : Nat) (w : World) : (Instr.build 27 #[(0, .slice a n1 c1), (1, .slice b n2 c2), (3, .slice c n3 c3)]).run Try.prog w = .ok (.agg #[.slice a n1 c1, .slice b n2 c2, .slice none 0 0, .slice c n3 c3]) w := by kernel_rfl
theorem X.b013 {ρ : Operand → Value} {x y z : Operand} {v1 v2 v3 : Value} (h1 : ρ x = v1) (h2 : ρ y = v2) (h3 : ρ z = v3) : [(0, x), (1, y), (3, z)].map (fun p : Nat × Operand => (p.1, ρ p.2)) = [(0, v1), (1, v2), (3, v3)] := by simp [h1, h2, h3]
theorem exT_sz : ∀ i, i < exP.nt → (exP.tn i).size ≤ 9223372036854775807 := fun i _ => by
  show (if i = 0 then (⟨#[97]⟩ : ByteArray) else ⟨#[98]⟩).size ≤ _
  split <;> decide
theorem exH_sz : ∀ i, i < exP.nh → (exP.hn i).size ≤ 9223372036854775807 := fun i _ => by
  show (if i = 0 then (⟨#[120]⟩ : ByteArray) else ⟨#[121]⟩).size ≤ _
  split <;> decide
set_option maxRecDepth 100000 in
set_option maxHeartbeats 400000 in
theorem example_any (w : World) :
  Calls Try.prog 51 #[] w fun e w' => ∃ ta ha la, e = .returned (.agg #[.slice ta 2 2, .slice ha 2 2, .slice none 0 0, .slice la 1 1]) ∧ PbAt w' exP ta ha none la 2 2 0 1 ∧ Gr w w' := by
 have G := Gr.refl w
 refine Y.calls 10 Try.func51 rfl rfl ?_
 intro ac F0
 have F : Fr ac 10 [] := F0.sub _
 clear F0
 refine Y.sl ?_
 refine Y.pv F (Y.al rfl (Try.new27 _)) ?_;clear F ac;intro ac F
 have g := Gr.alloc w (.cells #[.slice none 0 0, .slice none 0 0, .slice none 0 0, .slice none 0 0] 27)
 have hb := heap_alloc_new w (.cells #[.slice none 0 0, .slice none 0 0, .slice none 0 0, .slice none 0 0] 27)
 have hszw3 : w.heap.size < (w.alloc (.cells #[.slice none 0 0, .slice none 0 0, .slice none 0 0, .slice none 0 0] 27)).heap.size := by simp
 have hgsw3 : w.heap.size ≤ w.heap.size := G.size
 generalize w.alloc (.cells #[.slice none 0 0, .slice none 0 0, .slice none 0 0, .slice none 0 0] 27) = w3 at *
 replace G := G.trans g
 have hVw3 : OwnP w3 w.heap.size 4 (VL [.slice none 0 0, .slice none 0 0, .slice none 0 0, .slice none 0 0]) := ownP_bx (vs := [.slice none 0 0, .slice none 0 0, .slice none 0 0, .slice none 0 0]) hb
 clear g hb
 refine Y.nt F [(0, Vp w.heap.size)] ?_;clear F ac;intro ac F
 refine Y.sl ?_
 refine Y.pv3 F (Y.bd rfl rfl (Try.exT0 _)) (fun _ F=>Y.bd rfl rfl (Try.exT1 _)) (fun _ F=>X.bs rfl (X.b2 (F.ev 1 (.agg #[.string ⟨#[97]⟩, Vi 2, Vi 3, Vi 0])) (F.ev 2 (.agg #[.string ⟨#[98]⟩, Vi 1, Vi 3, Vi 2]))) (Try.exsT _)) ?_;clear F ac;intro ac F
 have g := Gr.alloc w3 (.cells #[.string ⟨#[97]⟩, Vi 2, Vi 3, Vi 0, .string ⟨#[98]⟩, Vi 1, Vi 3, Vi 2] 74)
 have hgsT : w.heap.size ≤ w3.heap.size := G.size
 have hboT : w.heap.size < w3.heap.size := hVw3.lt
 have hxT := exT_at (heap_alloc_new w3 (.cells #[.string ⟨#[97]⟩, Vi 2, Vi 3, Vi 0, .string ⟨#[98]⟩, Vi 1, Vi 3, Vi 2] 74))
 generalize w3.alloc (.cells #[.string ⟨#[97]⟩, Vi 2, Vi 3, Vi 0, .string ⟨#[98]⟩, Vi 1, Vi 3, Vi 2] 74) = w4 at *
 replace G := G.trans g
 replace hVw3 := hVw3.gr g
 clear g
 refine Y.pv3 F (Y.bd rfl rfl (Try.exH0 _)) (fun _ F=>Y.bd rfl rfl (Try.exH1 _)) (fun _ F=>X.bs rfl (X.b2 (F.ev 4 (.agg #[.string ⟨#[120]⟩, Vi 4, Vi 5, Vi 2, Vi 0, Vi 10])) (F.ev 5 (.agg #[.string ⟨#[121]⟩, Vi 2, Vi 5, Vi 0, Vi 1, Vi 4]))) (Try.exsH _)) ?_;clear F ac;intro ac F
 have g := Gr.alloc w4 (.cells #[.string ⟨#[120]⟩, Vi 4, Vi 5, Vi 2, Vi 0, Vi 10, .string ⟨#[121]⟩, Vi 2, Vi 5, Vi 0, Vi 1, Vi 4] 53)
 have hgsH : w.heap.size ≤ w4.heap.size := G.size
 have hboH : w.heap.size < w4.heap.size := hVw3.lt
 have hxH := exH_at (heap_alloc_new w4 (.cells #[.string ⟨#[120]⟩, Vi 4, Vi 5, Vi 2, Vi 0, Vi 10, .string ⟨#[121]⟩, Vi 2, Vi 5, Vi 0, Vi 1, Vi 4] 53))
 generalize w4.alloc (.cells #[.string ⟨#[120]⟩, Vi 4, Vi 5, Vi 2, Vi 0, Vi 10, .string ⟨#[121]⟩, Vi 2, Vi 5, Vi 0, Vi 1, Vi 4] 53) = w5 at *
 replace G := G.trans g
 replace hVw3 := hVw3.gr g
 replace hxT := hxT.gr g
 clear g
 refine Y.pv2 F (Y.bd rfl rfl (Try.exL0 _)) (fun _ F=>X.bs rfl (X.b1 (F.ev 7 (.agg #[Vi 0, Vi 1, Vi 3]))) (Try.exsL _)) ?_;clear F ac;intro ac F
 have g := Gr.alloc w5 (.cells #[Vi 0, Vi 1, Vi 3] 84)
 have hgsL : w.heap.size ≤ w5.heap.size := G.size
 have hboL : w.heap.size < w5.heap.size := hVw3.lt
 have hxL := exL_at (heap_alloc_new w5 (.cells #[Vi 0, Vi 1, Vi 3] 84))
 generalize w5.alloc (.cells #[Vi 0, Vi 1, Vi 3] 84) = w6 at *
 replace G := G.trans g
 replace hVw3 := hVw3.gr g
 replace hxT := hxT.gr g
 replace hxH := hxH.gr g
 clear g
 refine Y.pv F (Y.bd rfl (X.b013 (F.ev 3 (.slice (some ⟨w3.heap.size, 0, none⟩) 2 2)) (F.ev 6 (.slice (some ⟨w4.heap.size, 0, none⟩) 2 2)) (F.ev 8 (.slice (some ⟨w5.heap.size, 0, none⟩) 1 1))) (Try.bd27 _ _ _ _ _ _ _ _ _ _)) ?_;clear F ac;intro ac F
 obtain ⟨w7, hrun, hV2, hon⟩ := ownP_store (P := Try.prog) (vs := [.slice (some ⟨w3.heap.size, 0, none⟩) 2 2, .slice (some ⟨w4.heap.size, 0, none⟩) 2 2, .slice none 0 0, .slice (some ⟨w5.heap.size, 0, none⟩) 1 1]) (t := 27) hVw3 rfl (fun W => Try.siz27 W) rfl
 refine Y.punit F (X.w0 rfl) rfl (X.store rfl (F.ev 0 (Vp w.heap.size)) (F.ev 9 (.agg #[.slice (some ⟨w3.heap.size, 0, none⟩) 2 2, .slice (some ⟨w4.heap.size, 0, none⟩) 2 2, .slice none 0 0, .slice (some ⟨w5.heap.size, 0, none⟩) 1 1])) hrun) ?_
 clear F ac hrun
 intro ac F
 replace hxT := hxT.only hon (fun ad e h => by injection e with e; subst e; have h9 : _ = _ := h; simp only at h9; omega)
 replace hxH := hxH.only hon (fun ad e h => by injection e with e; subst e; have h9 : _ = _ := h; simp only at h9; omega)
 replace hxL := hxL.only hon (fun ad e h => by injection e with e; subst e; have h9 : _ = _ := h; simp only at h9; omega)
 replace G := Y.Only.up G hon (by omega)
 refine Y.nt F [(0, Vp w.heap.size)] ?_;clear F ac;intro ac F
 refine Y.ret ?_
 exact Y.ret0 (v := .agg #[.slice (some ⟨w3.heap.size, 0, none⟩) 2 2, .slice (some ⟨w4.heap.size, 0, none⟩) 2 2, .slice none 0 0, .slice (some ⟨w5.heap.size, 0, none⟩) 1 1]) F (Y.rcl F rfl (by kernel_rfl) (ownP_load hV2 (Try.agg27 _) (Try.siz27 _) rfl)) ⟨_, _, _, rfl, ⟨hxT, hxH, TbAt.nil _ _ _ _ _, hxL, fun i hi => exT_sz i hi, fun i hi => exH_sz i hi⟩, G⟩
set_option maxRecDepth 100000 in
set_option maxHeartbeats 400000 in
theorem works_any (w : World) :
  Calls Try.prog 16 #[] w fun e w' => e = .returned (.bool true) ∧ Gr w w' := by
 have G := Gr.refl w
 refine Y.calls 33 Try.func16 rfl rfl ?_
 intro ac F0
 have F : Fr ac 33 [] := F0.sub _
 clear F0
 refine Y.sg F [] (Y.pv F (X.assign rfl (X.kc (.bool false) rfl)) fun ac F=>Y.fin F) ?_;clear F ac;intro ac F
 refine Y.sl ?_
 refine Y.pcall F (X.w0 rfl) rfl (X.enter (F := 51) rfl (X.kc (.func (.func 51) #[] #[]) rfl) rfl (enters_of Try.func51 (by kernel_rfl) rfl _)) (example_any w) ?_
 clear F ac
 rintro e w3 ⟨ta, ha, la, rfl, hP0, g⟩
 refine ⟨_, rfl, ?_⟩
 intro ac F
 replace G := G.trans g
 clear g
 have hP := hP0
 refine Y.pc F 22 (X.a1 (F.ev 5 (.agg #[.slice ta 2 2, .slice ha 2 2, .slice none 0 0, .slice la 1 1]))) Try.func22 (best_any exP ta ha none la 2 2 0 1 w3 hP) ?_
 clear F ac
 rintro e w4 ⟨a9, c9, rfl, hI, -, g⟩
 rw [ex_best] at hI
 refine ⟨_, rfl, ?_⟩
 rw [ex_best]
 intro ac F
 replace G := G.trans g
 clear g
 obtain ⟨ad, rfl, -, hc0⟩ := hI.at (j := 0) (by decide)
 obtain ⟨ad2, e2, -, hc1⟩ := hI.at (j := 1) (by decide)
 injection e2 with e2
 subst e2
 have hC : RCells w4 [(ad.add 0, Vi 1), (ad.add 1, Vi 0)] := (RCells.cons hc0 (RCells.cons hc1 (RCells.nil _)))
 refine Y.pv4 F (X.move rfl (F.ev 6 (.tuple #[.slice (some ad) 2 c9, Vi 20, Vi 0]))) (fun _ F=>X.extract rfl (F.ev 4 (.tuple #[.slice (some ad) 2 c9, Vi 20, Vi 0])) rfl) (fun _ F=>X.extract rfl (F.ev 4 (.tuple #[.slice (some ad) 2 c9, Vi 20, Vi 0])) rfl) (fun _ F=>X.extract rfl (F.ev 4 (.tuple #[.slice (some ad) 2 c9, Vi 20, Vi 0])) rfl) ?_;clear F ac;intro ac F
 refine Y.pv3 F (X.assign rfl (F.ev 7 (.slice (some ad) 2 c9))) (fun _ F=>X.assign rfl (F.ev 8 (Vi 20))) (fun _ F=>X.assign rfl (F.ev 9 (Vi 0))) ?_;clear F ac;intro ac F
 refine Y.nt F [(1, .slice (some ad) 2 c9), (2, Vi 20), (3, Vi 0)] ?_;clear F ac;intro ac F
 refine Y.sg F [(0, .bool true)] (by
  refine Y.pv F (X.move rfl (F.ev 3 (Vi 0))) fun ac F=>?_
  refine Y.pval F (X.w0 rfl) rfl (X.binop rfl (F.ev 10 (Vi 0)) (X.kc (Vi 0) rfl) (X.eqlI Try.underlying31 (show ((0 : Int) == 0) = true by simp))) fun ac F=>?_
  refine Y.pv F (X.move rfl (F.ev 11 (.bool true))) fun ac F=>?_
  refine Y.pg F 2 12 true (X.move rfl (F.ev 2 (Vi 20))) fun ac F=>?_
  refine Y.pg F 2 12 true (X.binop rfl (F.ev 13 (Vi 20)) (X.kc (Vi 20) rfl) (X.eqlI Try.underlying3 (show ((20 : Int) == 20) = true by simp))) fun ac F=>?_
  refine Y.pv F (X.pickT rfl (F.ev 12 (.bool true)) (F.ev 14 (.bool true))) fun ac F=>?_
  refine Y.pv F (X.move rfl (F.ev 15 (.bool true))) fun ac F=>?_
  refine Y.pg F 6 16 true (X.move rfl (F.ev 1 (.slice (some ad) 2 c9))) fun ac F=>?_
  refine Y.pg F 6 16 true (X.len1 Try.underlying34 rfl (F.ev 17 (.slice (some ad) 2 c9))) fun ac F=>?_
  refine Y.pg F 6 16 true (X.binop rfl (F.ev 18 (Vi 2)) (X.kc (Vi 2) rfl) (X.eqlI Try.underlying3 (show ((2 : Int) == 2) = true by simp))) fun ac F=>?_
  refine Y.pv F (X.pickT rfl (F.ev 16 (.bool true)) (F.ev 19 (.bool true))) fun ac F=>?_
  refine Y.pv F (X.move rfl (F.ev 20 (.bool true))) fun ac F=>?_
  refine Y.pg F 11 21 true (X.move rfl (F.ev 1 (.slice (some ad) 2 c9))) fun ac F=>?_
  refine Y.pg F 11 21 true (X.index rfl (F.ev 22 (.slice (some ad) 2 c9)) (X.kc (Vi 0) rfl) (X.idx (k := 0) Try.underlying34 (Try.siz3 _) (by omega) (by omega) (by rw [Nat.mul_one]))) fun ac F=>?_
  refine Y.pg F 11 21 true (X.load rfl (F.ev 23 (.pointer (some (ad.add 0)))) (X.ld1 (Try.agg3 _) (hC.at 0 rfl))) fun ac F=>?_
  refine Y.pg F 11 21 true (X.binop rfl (F.ev 24 (Vi 1)) (X.kc (Vi 1) rfl) (X.eqlI Try.underlying3 (show ((1 : Int) == 1) = true by simp))) fun ac F=>?_
  refine Y.pv F (X.pickT rfl (F.ev 21 (.bool true)) (F.ev 25 (.bool true))) fun ac F=>?_
  refine Y.pv F (X.move rfl (F.ev 26 (.bool true))) fun ac F=>?_
  refine Y.pg F 17 27 true (X.move rfl (F.ev 1 (.slice (some ad) 2 c9))) fun ac F=>?_
  refine Y.pg F 17 27 true (X.index rfl (F.ev 28 (.slice (some ad) 2 c9)) (X.kc (Vi 1) rfl) (X.idx (k := 1) Try.underlying34 (Try.siz3 _) (by omega) (by omega) (by rw [Nat.mul_one]))) fun ac F=>?_
  refine Y.pg F 17 27 true (X.load rfl (F.ev 29 (.pointer (some (ad.add 1)))) (X.ld1 (Try.agg3 _) (hC.at 1 rfl))) fun ac F=>?_
  refine Y.pg F 17 27 true (X.binop rfl (F.ev 30 (Vi 0)) (X.kc (Vi 0) rfl) (X.eqlI Try.underlying3 (show ((0 : Int) == 0) = true by simp))) fun ac F=>?_
  refine Y.pv F (X.pickT rfl (F.ev 27 (.bool true)) (F.ev 31 (.bool true))) fun ac F=>?_
  refine Y.pv F (X.assign rfl (F.ev 32 (.bool true))) fun ac F=>?_
  exact Y.fin F) ?_;clear F ac;intro ac F
 refine Y.ret ?_
 exact Y.ret0 (v := .bool true) F (Y.r1 F) ⟨rfl, G⟩
end
section
open Go.RowKit

set_option maxRecDepth 100000 in
set_option maxHeartbeats 1000000 in
theorem far_any (p : Pb) (ta ha ba la : Option Addr) (tc hc bc lc : Nat) (w : World) (hP : PbAt w p ta ha ba la tc hc bc lc) :
  Calls Try.prog 15 #[.agg #[.slice ta p.nt tc, .slice ha p.nh hc, .slice ba p.nb bc, .slice la p.nl lc]] w fun e w' => e = .returned (.bool (farB p)) ∧ Gr w w' := by
 have G := Gr.refl w
 have hpt := hP.t
 have hph := hP.h
 have hpb := hP.b
 have hpl := hP.l
 have hplen := hP.len
 obtain ⟨hn1, hn2, hn3, hn4⟩ := hplen
 have hcp1 := hpt.cap
 have hcp2 := hph.cap
 have hcp3 := hpb.cap
 have hcp4 := hpl.cap
 refine Y.calls 57 Try.func15 rfl rfl ?_
 intro ac F0
 have F : Fr ac 57 [(0, .agg #[.slice ta p.nt tc, .slice ha p.nh hc, .slice ba p.nb bc, .slice la p.nl lc])] := F0.sub _
 clear F0
 refine Y.sl ?_
 have hgs3 : w.heap.size ≤ w.heap.size := G.size
 refine Y.pv F (X.box rfl (F.ev 0 (.agg #[.slice ta p.nt tc, .slice ha p.nh hc, .slice ba p.nb bc, .slice la p.nl lc])) X.bx) ?_;clear F ac;intro ac F
 have hgs5 : w.heap.size ≤ w.heap.size := G.size
 obtain ⟨w6, hw_, g, hb, hbl, hC2⟩ := Y.bxd (RCells.nil w) #[.slice ta p.nt tc, .slice ha p.nh hc, .slice ba p.nb bc, .slice la p.nl lc] 27;rw [hw_];clear hw_
 replace G := G.trans g
 have hC := hC2
 clear hC2
 replace hpt := hpt.gr g
 replace hph := hph.gr g
 replace hpb := hpb.gr g
 replace hpl := hpl.gr g
 have hsz4 := hbl
 clear g hb hbl
 refine Y.pv F (X.assign rfl (X.kc (.bool false) rfl)) ?_;clear F ac;intro ac F
 refine Y.nt F [(1, Vp w.heap.size)] ?_;clear F ac;intro ac F
 refine Y.seq ?_
 refine Y.sl ?_
 refine Y.pv4 F (X.field rfl (F.ev 1 (Vp w.heap.size)) (X.fld Try.underlying27 rfl (Try.siz22 _) rfl rfl)) (fun _ F=>X.load rfl (F.ev 5 (Vp w.heap.size)) (X.ld1 (Try.agg22 _) (hC.at 0 rfl))) (fun _ F=>X.len1 Try.underlying22 rfl (F.ev 6 (.slice ta p.nt tc))) (fun _ F=>X.binop rfl (F.ev 7 (Vi p.nt)) (X.kc (Vi 20) rfl) (X.gtrI Try.underlying3 rfl)) ?_;clear F ac;intro ac F
 refine Y.pv F (X.move rfl (F.ev 8 (.bool (decide ((20 : Int) < p.nt))))) ?_;clear F ac;intro ac F
 cases h7 : decide ((20 : Int) < p.nt) with
 | false =>
  try rw [h7] at F
  have h7p : ¬ ((20 : Int) < p.nt) := of_decide_eq_false h7
  refine Y.pg F 4 9 false (X.field rfl (F.ev 1 (Vp w.heap.size)) (X.fld Try.underlying27 rfl (Try.siz23 _) rfl rfl)) ?_;clear F ac;intro ac F
  refine Y.pg F 4 9 false (X.load rfl (F.ev 10 (.pointer (some ⟨w.heap.size, 1, none⟩))) (X.ld1 (Try.agg23 _) (hC.at 1 rfl))) ?_;clear F ac;intro ac F
  refine Y.pg F 4 9 false (X.len1 Try.underlying23 rfl (F.ev 11 (.slice ha p.nh hc))) ?_;clear F ac;intro ac F
  refine Y.pg F 4 9 false (X.binop rfl (F.ev 12 (Vi p.nh)) (X.kc (Vi 20) rfl) (X.gtrI Try.underlying3 rfl)) ?_;clear F ac;intro ac F
  refine Y.pv2 F (X.pickF rfl (F.ev 9 (.bool false)) (F.ev 13 (.bool (decide ((20 : Int) < p.nh))))) (fun _ F=>X.move rfl (F.ev 14 (.bool (decide ((20 : Int) < p.nh))))) ?_;clear F ac;intro ac F
  cases h8 : decide ((20 : Int) < p.nh) with
  | false =>
   try rw [h8] at F
   have h8p : ¬ ((20 : Int) < p.nh) := of_decide_eq_false h8
   refine Y.pg F 10 15 false (X.field rfl (F.ev 1 (Vp w.heap.size)) (X.fld Try.underlying27 rfl (Try.siz24 _) rfl rfl)) ?_;clear F ac;intro ac F
   refine Y.pg F 10 15 false (X.load rfl (F.ev 16 (.pointer (some ⟨w.heap.size, 2, none⟩))) (X.ld1 (Try.agg24 _) (hC.at 2 rfl))) ?_;clear F ac;intro ac F
   refine Y.pg F 10 15 false (X.len1 Try.underlying24 rfl (F.ev 17 (.slice ba p.nb bc))) ?_;clear F ac;intro ac F
   refine Y.pg F 10 15 false (X.binop rfl (F.ev 18 (Vi p.nb)) (X.kc (Vi 40) rfl) (X.gtrI Try.underlying3 rfl)) ?_;clear F ac;intro ac F
   refine Y.pv2 F (X.pickF rfl (F.ev 15 (.bool false)) (F.ev 19 (.bool (decide ((40 : Int) < p.nb))))) (fun _ F=>X.move rfl (F.ev 20 (.bool (decide ((40 : Int) < p.nb))))) ?_;clear F ac;intro ac F
   cases h9 : decide ((40 : Int) < p.nb) with
   | false =>
    try rw [h9] at F
    have h9p : ¬ ((40 : Int) < p.nb) := of_decide_eq_false h9
    refine Y.pg F 16 21 false (X.field rfl (F.ev 1 (Vp w.heap.size)) (X.fld Try.underlying27 rfl (Try.siz25 _) rfl rfl)) ?_;clear F ac;intro ac F
    refine Y.pg F 16 21 false (X.load rfl (F.ev 22 (.pointer (some ⟨w.heap.size, 3, none⟩))) (X.ld1 (Try.agg25 _) (hC.at 3 rfl))) ?_;clear F ac;intro ac F
    refine Y.pg F 16 21 false (X.len1 Try.underlying25 rfl (F.ev 23 (.slice la p.nl lc))) ?_;clear F ac;intro ac F
    refine Y.pg F 16 21 false (X.binop rfl (F.ev 24 (Vi p.nl)) (X.kc (Vi 40) rfl) (X.gtrI Try.underlying3 rfl)) ?_;clear F ac;intro ac F
    refine Y.pv F (X.pickF rfl (F.ev 21 (.bool false)) (F.ev 25 (.bool (decide ((40 : Int) < p.nl))))) ?_;clear F ac;intro ac F
    refine Y.nt F [(1, Vp w.heap.size), (26, .bool (decide ((40 : Int) < p.nl)))] ?_;clear F ac;intro ac F
    cases h10 : decide ((40 : Int) < p.nl) with
    | false =>
     try rw [h10] at F
     have h10p : ¬ ((40 : Int) < p.nl) := of_decide_eq_false h10
     refine Y.condF (F.ev 26 (.bool false)) ?_
     refine Y.skip ?_
     refine X.thenN ?_
     refine Y.seq ?_
     refine Y.sg F [(1, Vp w.heap.size), (3, Vi 0)] (Y.pv F (X.assign rfl (X.kc (Vi 0) rfl)) fun ac F=>Y.fin F) ?_;clear F ac;intro ac F
     refine Y.block ?_
     refine Y.loop (fun me_ ac wr => ∃ (i : Nat), me_ = p.nt - i ∧ Only (fun b => False) w6 wr ∧ i ≤ p.nt ∧ allN (fun i => decide ((p.tn i).size ≤ 100)) i = true ∧ Fr ac 57 [(1, Vp w.heap.size), (3, Vi i)]) _ ⟨0, rfl, Only.refl _ _, Nat.zero_le _, rfl, F.sub _⟩ ?_
     have hptB1 := hpt
     have hphB1 := hph
     have hpbB1 := hpb
     have hplB1 := hpl
     have GB1 := G
     have hCB1 := hC
     clear F ac
     intro me_ ac w11 hI
     obtain ⟨i, rfl, hO1, h0i, hoki, F⟩ := hI
     replace G := GB1.trans (hO1.gr (fun _ _ h => h))
     replace hpt := (hP.t).gr G
     replace hph := (hP.h).gr G
     replace hpb := (hP.b).gr G
     replace hpl := (hP.l).gr G
     replace hC := (RCells.cons (hO1.cell (hCB1.at 0 rfl) (fun h => h)) (RCells.cons (hO1.cell (hCB1.at 1 rfl) (fun h => h)) (RCells.cons (hO1.cell (hCB1.at 2 rfl) (fun h => h)) (RCells.cons (hO1.cell (hCB1.at 3 rfl) (fun h => h)) (RCells.nil _)))))
     refine Y.seq ?_
     refine Y.sg F [(1, Vp w.heap.size), (3, Vi i), (31, .bool (decide ((i : Int) < p.nt)))] (by
      refine Y.pv F (X.move rfl (F.ev 3 (Vi i))) fun ac F=>?_
      refine Y.pv F (X.field rfl (F.ev 1 (Vp w.heap.size)) (X.fld Try.underlying27 rfl (Try.siz22 _) rfl rfl)) fun ac F=>?_
      refine Y.pv F (X.load rfl (F.ev 28 (Vp w.heap.size)) (X.ld1 (Try.agg22 _) (hC.at 0 rfl))) fun ac F=>?_
      refine Y.pv F (X.len1 Try.underlying22 rfl (F.ev 29 (.slice ta p.nt tc))) fun ac F=>?_
      refine Y.pv F (X.binop rfl (F.ev 27 (Vi i)) (F.ev 30 (Vi p.nt)) (X.lssI Try.underlying3 rfl)) fun ac F=>?_
      exact Y.fin F) ?_;clear F ac;intro ac F
     cases h12 : decide ((i : Int) < p.nt) with
     | false =>
      try rw [h12] at F
      have h12p : ¬ ((i : Int) < p.nt) := of_decide_eq_false h12
      obtain rfl : i = p.nt := by omega
      refine Y.condF (F.ev 31 (.bool false)) ?_
      refine Y.exit ?_
      refine X.thenX (X.thenX (X.blockX (X.thenN ?_)))
      refine Y.seq ?_
      refine Y.sg F [(1, Vp w.heap.size), (4, Vi 0)] (Y.pv F (X.assign rfl (X.kc (Vi 0) rfl)) fun ac F=>Y.fin F) ?_;clear F ac;intro ac F
      refine Y.block ?_
      refine Y.loop (fun me_ ac wr => ∃ (j : Nat), me_ = p.nh - j ∧ Only (fun b => False) w11 wr ∧ j ≤ p.nh ∧ allN (fun i => decide ((p.hn i).size ≤ 100)) j = true ∧ Fr ac 57 [(1, Vp w.heap.size), (4, Vi j)]) _ ⟨0, rfl, Only.refl _ _, Nat.zero_le _, rfl, F.sub _⟩ ?_
      have hptB1 := hpt
      have hphB1 := hph
      have hpbB1 := hpb
      have hplB1 := hpl
      have GB1 := G
      have hCB1 := hC
      clear F ac
      intro me_ ac w13 hI
      obtain ⟨j, rfl, hO1, h0j, hokj, F⟩ := hI
      replace G := GB1.trans (hO1.gr (fun _ _ h => h))
      replace hpt := (hP.t).gr G
      replace hph := (hP.h).gr G
      replace hpb := (hP.b).gr G
      replace hpl := (hP.l).gr G
      replace hC := (RCells.cons (hO1.cell (hCB1.at 0 rfl) (fun h => h)) (RCells.cons (hO1.cell (hCB1.at 1 rfl) (fun h => h)) (RCells.cons (hO1.cell (hCB1.at 2 rfl) (fun h => h)) (RCells.cons (hO1.cell (hCB1.at 3 rfl) (fun h => h)) (RCells.nil _)))))
      refine Y.seq ?_
      refine Y.sg F [(1, Vp w.heap.size), (4, Vi j), (46, .bool (decide ((j : Int) < p.nh)))] (by
       refine Y.pv F (X.move rfl (F.ev 4 (Vi j))) fun ac F=>?_
       refine Y.pv F (X.field rfl (F.ev 1 (Vp w.heap.size)) (X.fld Try.underlying27 rfl (Try.siz23 _) rfl rfl)) fun ac F=>?_
       refine Y.pv F (X.load rfl (F.ev 43 (.pointer (some ⟨w.heap.size, 1, none⟩))) (X.ld1 (Try.agg23 _) (hC.at 1 rfl))) fun ac F=>?_
       refine Y.pv F (X.len1 Try.underlying23 rfl (F.ev 44 (.slice ha p.nh hc))) fun ac F=>?_
       refine Y.pv F (X.binop rfl (F.ev 42 (Vi j)) (F.ev 45 (Vi p.nh)) (X.lssI Try.underlying3 rfl)) fun ac F=>?_
       exact Y.fin F) ?_;clear F ac;intro ac F
      cases h14 : decide ((j : Int) < p.nh) with
      | false =>
       try rw [h14] at F
       have h14p : ¬ ((j : Int) < p.nh) := of_decide_eq_false h14
       obtain rfl : j = p.nh := by omega
       refine Y.condF (F.ev 46 (.bool false)) ?_
       refine Y.exit ?_
       refine X.thenX (X.thenX (X.blockX (X.thenN ?_)))
       refine Y.sg F [(2, .bool false)] (Y.pv F (X.assign rfl (X.kc (.bool false) rfl)) fun ac F=>Y.fin F) ?_;clear F ac;intro ac F
       refine Y.ret ?_
       exact Y.ret0 (v := .bool false) F (Y.r1 F) ⟨by rw [far_no (by omega) hoki hokj], G⟩
      | true =>
       try rw [h14] at F
       have h14p : ((j : Int) < p.nh) := of_decide_eq_true h14
       have h9j : j < p.nh := by omega
       refine Y.condT (F.ev 46 (.bool true)) ?_
       refine Y.skip ?_
       refine X.thenN ?_
       refine Y.seq ?_
       refine Y.block ?_
       refine Y.sl ?_
       refine Y.pv3 F (X.field rfl (F.ev 1 (Vp w.heap.size)) (X.fld Try.underlying27 rfl (Try.siz23 _) rfl rfl)) (fun _ F=>X.load rfl (F.ev 49 (.pointer (some ⟨w.heap.size, 1, none⟩))) (X.ld1 (Try.agg23 _) (hC.at 1 rfl))) (fun _ F=>X.move rfl (F.ev 4 (Vi j))) ?_;clear F ac;intro ac F
       obtain ⟨pd15, pe15, -, pc15⟩ := hph.at (j := j) (by omega)
       subst pe15
       replace hC := hC.append (show RCells w13 (Y.cs (pd15.add (j * 6)) [.string (p.hn j), Vi (p.hv j 1), Vi (p.hv j 2), Vi (p.hv j 3), Vi (p.hv j 4), Vi (p.hv j 5)]) from (RCells.cons (pc15 0 (by decide)) (RCells.cons (pc15 1 (by decide)) (RCells.cons (pc15 2 (by decide)) (RCells.cons (pc15 3 (by decide)) (RCells.cons (pc15 4 (by decide)) (RCells.cons (pc15 5 (by decide)) (RCells.nil _))))))))
       clear pc15
       refine Y.pv4 F (X.index rfl (F.ev 50 (.slice (some pd15) p.nh hc)) (F.ev 51 (Vi j)) (X.idx (k := j) Try.underlying23 (Try.siz53 _) (by omega) (by omega) rfl)) (fun _ F=>X.field rfl (F.ev 52 (.pointer (some (pd15.add (j * 6))))) (X.fld Try.underlying53 rfl (Try.siz9 _) rfl rfl)) (fun _ F=>X.load rfl (F.ev 53 (.pointer (some (pd15.add (j * 6))))) (X.ld1 (Try.agg9 _) (hC.at 4 rfl))) (fun _ F=>Y.lenS Try.underlying9 rfl (F.ev 54 (.string (p.hn j)))) ?_;clear F ac;intro ac F
       refine Y.pv F (X.binop rfl (F.ev 55 (Vi ((p.hn j).size : Nat))) (X.kc (Vi 100) rfl) (X.gtrI Try.underlying3 rfl)) ?_;clear F ac;intro ac F
       refine Y.nt F [(1, Vp w.heap.size), (4, Vi j), (56, .bool (decide ((100 : Int) < ((p.hn j).size : Nat))))] ?_;clear F ac;intro ac F
       cases h16 : decide ((100 : Int) < ((p.hn j).size : Nat)) with
       | false =>
        try rw [h16] at F
        have h16p : ¬ ((100 : Int) < ((p.hn j).size : Nat)) := of_decide_eq_false h16
        refine Y.condF (F.ev 56 (.bool false)) ?_
        refine Y.skip ?_
        refine X.blockN (X.thenN ?_)
        refine Y.lg F [(1, Vp w.heap.size), (4, Vi ((j : Int) + 1))] (by
         refine Y.pv F (X.move rfl (F.ev 4 (Vi j))) fun ac F=>?_
         refine Y.pv F (X.binop rfl (F.ev 47 (Vi j)) (X.kc (Vi 1) rfl) (X.addI Try.underlying3 rfl (by omega) (by omega))) fun ac F=>?_
         refine Y.pv F (X.assign rfl (F.ev 48 (Vi ((j : Int) + 1)))) fun ac F=>?_
         exact Y.fin F) ?_;clear F ac;intro ac F
        refine ⟨_, ?_, j + 1, rfl, hO1, by omega, allN_succ hokj (decide_eq_true (by omega)), F.sub _⟩
        omega
       | true =>
        try rw [h16] at F
        have h16p : ((100 : Int) < ((p.hn j).size : Nat)) := of_decide_eq_true h16
        refine Y.condT (F.ev 56 (.bool true)) ?_
        refine Y.sg F [(2, .bool true)] (Y.pv F (X.assign rfl (X.kc (.bool true) rfl)) fun ac F=>Y.fin F) ?_;clear F ac;intro ac F
        refine Y.ret ?_
        refine X.blockR (X.thenR (X.thenR (X.blockR (X.thenR ?_))))
        exact Y.ret0 (v := .bool true) F (Y.r1 F) ⟨by rw [far_h h9j (by omega)], G⟩
     | true =>
      try rw [h12] at F
      have h12p : ((i : Int) < p.nt) := of_decide_eq_true h12
      have h9i : i < p.nt := by omega
      refine Y.condT (F.ev 31 (.bool true)) ?_
      refine Y.skip ?_
      refine X.thenN ?_
      refine Y.seq ?_
      refine Y.block ?_
      refine Y.sl ?_
      refine Y.pv3 F (X.field rfl (F.ev 1 (Vp w.heap.size)) (X.fld Try.underlying27 rfl (Try.siz22 _) rfl rfl)) (fun _ F=>X.load rfl (F.ev 34 (Vp w.heap.size)) (X.ld1 (Try.agg22 _) (hC.at 0 rfl))) (fun _ F=>X.move rfl (F.ev 3 (Vi i))) ?_;clear F ac;intro ac F
      obtain ⟨pd17, pe17, -, pc17⟩ := hpt.at (j := i) (by omega)
      subst pe17
      replace hC := hC.append (show RCells w11 (Y.cs (pd17.add (i * 4)) [.string (p.tn i), Vi (p.tv i 1), Vi (p.tv i 2), Vi (p.tv i 3)]) from (RCells.cons (pc17 0 (by decide)) (RCells.cons (pc17 1 (by decide)) (RCells.cons (pc17 2 (by decide)) (RCells.cons (pc17 3 (by decide)) (RCells.nil _))))))
      clear pc17
      refine Y.pv4 F (X.index rfl (F.ev 35 (.slice (some pd17) p.nt tc)) (F.ev 36 (Vi i)) (X.idx (k := i) Try.underlying22 (Try.siz74 _) (by omega) (by omega) rfl)) (fun _ F=>X.field rfl (F.ev 37 (.pointer (some (pd17.add (i * 4))))) (X.fld Try.underlying74 rfl (Try.siz9 _) rfl rfl)) (fun _ F=>X.load rfl (F.ev 38 (.pointer (some (pd17.add (i * 4))))) (X.ld1 (Try.agg9 _) (hC.at 4 rfl))) (fun _ F=>Y.lenS Try.underlying9 rfl (F.ev 39 (.string (p.tn i)))) ?_;clear F ac;intro ac F
      refine Y.pv F (X.binop rfl (F.ev 40 (Vi ((p.tn i).size : Nat))) (X.kc (Vi 100) rfl) (X.gtrI Try.underlying3 rfl)) ?_;clear F ac;intro ac F
      refine Y.nt F [(1, Vp w.heap.size), (3, Vi i), (41, .bool (decide ((100 : Int) < ((p.tn i).size : Nat))))] ?_;clear F ac;intro ac F
      cases h18 : decide ((100 : Int) < ((p.tn i).size : Nat)) with
      | false =>
       try rw [h18] at F
       have h18p : ¬ ((100 : Int) < ((p.tn i).size : Nat)) := of_decide_eq_false h18
       refine Y.condF (F.ev 41 (.bool false)) ?_
       refine Y.skip ?_
       refine X.blockN (X.thenN ?_)
       refine Y.lg F [(1, Vp w.heap.size), (3, Vi ((i : Int) + 1))] (by
        refine Y.pv F (X.move rfl (F.ev 3 (Vi i))) fun ac F=>?_
        refine Y.pv F (X.binop rfl (F.ev 32 (Vi i)) (X.kc (Vi 1) rfl) (X.addI Try.underlying3 rfl (by omega) (by omega))) fun ac F=>?_
        refine Y.pv F (X.assign rfl (F.ev 33 (Vi ((i : Int) + 1)))) fun ac F=>?_
        exact Y.fin F) ?_;clear F ac;intro ac F
       refine ⟨_, ?_, i + 1, rfl, hO1, by omega, allN_succ hoki (decide_eq_true (by omega)), F.sub _⟩
       omega
      | true =>
       try rw [h18] at F
       have h18p : ((100 : Int) < ((p.tn i).size : Nat)) := of_decide_eq_true h18
       refine Y.condT (F.ev 41 (.bool true)) ?_
       refine Y.sg F [(2, .bool true)] (Y.pv F (X.assign rfl (X.kc (.bool true) rfl)) fun ac F=>Y.fin F) ?_;clear F ac;intro ac F
       refine Y.ret ?_
       refine X.blockR (X.thenR (X.thenR (X.blockR (X.thenR ?_))))
       exact Y.ret0 (v := .bool true) F (Y.r1 F) ⟨by rw [far_t h9i (by omega)], G⟩
    | true =>
     try rw [h10] at F
     have h10p : ((40 : Int) < p.nl) := of_decide_eq_true h10
     refine Y.condT (F.ev 26 (.bool true)) ?_
     refine Y.sg F [(2, .bool true)] (Y.pv F (X.assign rfl (X.kc (.bool true) rfl)) fun ac F=>Y.fin F) ?_;clear F ac;intro ac F
     refine Y.ret ?_
     refine X.thenR ?_
     exact Y.ret0 (v := .bool true) F (Y.r1 F) ⟨by rw [far_n (by omega)], G⟩
   | true =>
    try rw [h9] at F
    have h9p : ((40 : Int) < p.nb) := of_decide_eq_true h9
    refine Y.ps F 16 21 true ?_;clear F ac;intro ac F
    refine Y.ps F 16 21 true ?_;clear F ac;intro ac F
    refine Y.ps F 16 21 true ?_;clear F ac;intro ac F
    refine Y.ps F 16 21 true ?_;clear F ac;intro ac F
    refine Y.pv F (X.pickT rfl (F.ev 21 (.bool true)) (X.kc (.bool true) rfl)) ?_;clear F ac;intro ac F
    refine Y.nt F [(1, Vp w.heap.size), (26, .bool true)] ?_;clear F ac;intro ac F
    refine Y.condT (F.ev 26 (.bool true)) ?_
    refine Y.sg F [(2, .bool true)] (Y.pv F (X.assign rfl (X.kc (.bool true) rfl)) fun ac F=>Y.fin F) ?_;clear F ac;intro ac F
    refine Y.ret ?_
    refine X.thenR ?_
    exact Y.ret0 (v := .bool true) F (Y.r1 F) ⟨by rw [far_n (by omega)], G⟩
  | true =>
   try rw [h8] at F
   have h8p : ((20 : Int) < p.nh) := of_decide_eq_true h8
   refine Y.ps F 10 15 true ?_;clear F ac;intro ac F
   refine Y.ps F 10 15 true ?_;clear F ac;intro ac F
   refine Y.ps F 10 15 true ?_;clear F ac;intro ac F
   refine Y.ps F 10 15 true ?_;clear F ac;intro ac F
   refine Y.pv2 F (X.pickT rfl (F.ev 15 (.bool true)) (X.kc (.bool true) rfl)) (fun _ F=>X.move rfl (F.ev 20 (.bool true))) ?_;clear F ac;intro ac F
   refine Y.ps F 16 21 true ?_;clear F ac;intro ac F
   refine Y.ps F 16 21 true ?_;clear F ac;intro ac F
   refine Y.ps F 16 21 true ?_;clear F ac;intro ac F
   refine Y.ps F 16 21 true ?_;clear F ac;intro ac F
   refine Y.pv F (X.pickT rfl (F.ev 21 (.bool true)) (X.kc (.bool true) rfl)) ?_;clear F ac;intro ac F
   refine Y.nt F [(1, Vp w.heap.size), (26, .bool true)] ?_;clear F ac;intro ac F
   refine Y.condT (F.ev 26 (.bool true)) ?_
   refine Y.sg F [(2, .bool true)] (Y.pv F (X.assign rfl (X.kc (.bool true) rfl)) fun ac F=>Y.fin F) ?_;clear F ac;intro ac F
   refine Y.ret ?_
   refine X.thenR ?_
   exact Y.ret0 (v := .bool true) F (Y.r1 F) ⟨by rw [far_n (by omega)], G⟩
 | true =>
  try rw [h7] at F
  have h7p : ((20 : Int) < p.nt) := of_decide_eq_true h7
  refine Y.ps F 4 9 true ?_;clear F ac;intro ac F
  refine Y.ps F 4 9 true ?_;clear F ac;intro ac F
  refine Y.ps F 4 9 true ?_;clear F ac;intro ac F
  refine Y.ps F 4 9 true ?_;clear F ac;intro ac F
  refine Y.pv2 F (X.pickT rfl (F.ev 9 (.bool true)) (X.kc (.bool true) rfl)) (fun _ F=>X.move rfl (F.ev 14 (.bool true))) ?_;clear F ac;intro ac F
  refine Y.ps F 10 15 true ?_;clear F ac;intro ac F
  refine Y.ps F 10 15 true ?_;clear F ac;intro ac F
  refine Y.ps F 10 15 true ?_;clear F ac;intro ac F
  refine Y.ps F 10 15 true ?_;clear F ac;intro ac F
  refine Y.pv2 F (X.pickT rfl (F.ev 15 (.bool true)) (X.kc (.bool true) rfl)) (fun _ F=>X.move rfl (F.ev 20 (.bool true))) ?_;clear F ac;intro ac F
  refine Y.ps F 16 21 true ?_;clear F ac;intro ac F
  refine Y.ps F 16 21 true ?_;clear F ac;intro ac F
  refine Y.ps F 16 21 true ?_;clear F ac;intro ac F
  refine Y.ps F 16 21 true ?_;clear F ac;intro ac F
  refine Y.pv F (X.pickT rfl (F.ev 21 (.bool true)) (X.kc (.bool true) rfl)) ?_;clear F ac;intro ac F
  refine Y.nt F [(1, Vp w.heap.size), (26, .bool true)] ?_;clear F ac;intro ac F
  refine Y.condT (F.ev 26 (.bool true)) ?_
  refine Y.sg F [(2, .bool true)] (Y.pv F (X.assign rfl (X.kc (.bool true) rfl)) fun ac F=>Y.fin F) ?_;clear F ac;intro ac F
  refine Y.ret ?_
  refine X.thenR ?_
  exact Y.ret0 (v := .bool true) F (Y.r1 F) ⟨by rw [far_n (by omega)], G⟩
set_option maxRecDepth 100000 in
set_option maxHeartbeats 400000 in
theorem large_any (p : Pb) (ta ha ba la : Option Addr) (tc hc bc lc : Nat) (w : World) (hP : PbAt w p ta ha ba la tc hc bc lc) :
  Calls Try.prog 21 #[.agg #[.slice ta p.nt tc, .slice ha p.nh hc, .slice ba p.nb bc, .slice la p.nl lc]] w fun e w' => e = .returned (.bool (largeB p)) ∧ Gr w w' := by
 have G := Gr.refl w
 have hpt := hP.t
 have hph := hP.h
 have hpb := hP.b
 have hpl := hP.l
 have hplen := hP.len
 obtain ⟨hn1, hn2, hn3, hn4⟩ := hplen
 have hcp1 := hpt.cap
 have hcp2 := hph.cap
 have hcp3 := hpb.cap
 have hcp4 := hpl.cap
 refine Y.calls 22 Try.func21 rfl rfl ?_
 intro ac F0
 have F : Fr ac 22 [(0, .agg #[.slice ta p.nt tc, .slice ha p.nh hc, .slice ba p.nb bc, .slice la p.nl lc])] := F0.sub _
 clear F0
 refine Y.sl ?_
 have hgs3 : w.heap.size ≤ w.heap.size := G.size
 refine Y.pv F (X.box rfl (F.ev 0 (.agg #[.slice ta p.nt tc, .slice ha p.nh hc, .slice ba p.nb bc, .slice la p.nl lc])) X.bx) ?_;clear F ac;intro ac F
 have hgs5 : w.heap.size ≤ w.heap.size := G.size
 obtain ⟨w6, hw_, g, hb, hbl, hC2⟩ := Y.bxd (RCells.nil w) #[.slice ta p.nt tc, .slice ha p.nh hc, .slice ba p.nb bc, .slice la p.nl lc] 27;rw [hw_];clear hw_
 replace G := G.trans g
 have hC := hC2
 clear hC2
 replace hpt := hpt.gr g
 replace hph := hph.gr g
 replace hpb := hpb.gr g
 replace hpl := hpl.gr g
 have hsz4 := hbl
 clear g hb hbl
 refine Y.pv F (X.assign rfl (X.kc (.bool false) rfl)) ?_;clear F ac;intro ac F
 refine Y.nt F [(1, Vp w.heap.size)] ?_;clear F ac;intro ac F
 refine Y.sl ?_
 refine Y.pv F (X.load rfl (F.ev 1 (Vp w.heap.size)) (X.ldN (Try.agg27 _) (Try.siz27 _) (Y.atz (⟨w.heap.size, 0, none⟩) (Y.AtFrom.cons (hC.at 0 rfl) (Y.AtFrom.cons (hC.at 1 rfl) (Y.AtFrom.cons (hC.at 2 rfl) (Y.AtFrom.cons (hC.at 3 rfl) (Y.AtFrom.nil _ _ _)))))))) ?_;clear F ac;intro ac F
 refine Y.pc F 15 (X.a1 (F.ev 3 (.agg #[.slice ta p.nt tc, .slice ha p.nh hc, .slice ba p.nb bc, .slice la p.nl lc]))) Try.func15 (far_any p ta ha ba la tc hc bc lc w6 (hP.gr G)) ?_
 clear F ac
 rintro e w7 ⟨rfl, g⟩
 refine ⟨_, rfl, ?_⟩
 intro ac F
 replace G := G.trans g
 replace hC := hC.gr g
 replace hpt := hpt.gr g
 replace hph := hph.gr g
 replace hpb := hpb.gr g
 replace hpl := hpl.gr g
 clear g
 refine Y.pv F (X.move rfl (F.ev 4 (.bool (farB p)))) ?_;clear F ac;intro ac F
 cases h8 : farB p with
 | false =>
  try rw [h8] at F
  refine Y.pg F 2 5 false (X.load rfl (F.ev 1 (Vp w.heap.size)) (X.ldN (Try.agg27 _) (Try.siz27 _) (Y.atz (⟨w.heap.size, 0, none⟩) (Y.AtFrom.cons (hC.at 0 rfl) (Y.AtFrom.cons (hC.at 1 rfl) (Y.AtFrom.cons (hC.at 2 rfl) (Y.AtFrom.cons (hC.at 3 rfl) (Y.AtFrom.nil _ _ _)))))))) ?_;clear F ac;intro ac F
  refine Y.pcall F (X.w1 rfl (F.yl (j := 2) (d := 5) (b := false) rfl (by kernel_rfl))) rfl (X.enter (F := 19) rfl (X.kc (.func (.func 19) #[] #[]) rfl) (X.a1 (F.ev 6 (.agg #[.slice ta p.nt tc, .slice ha p.nh hc, .slice ba p.nb bc, .slice la p.nl lc]))) (enters_of Try.func19 (by kernel_rfl) rfl _)) (check2_any p ta ha ba la tc hc bc lc w7 (hP.gr G)) ?_
  clear F ac
  rintro e w9 ⟨rfl, g⟩
  refine ⟨_, rfl, ?_⟩
  intro ac F
  replace G := G.trans g
  replace hC := hC.gr g
  replace hpt := hpt.gr g
  replace hph := hph.gr g
  replace hpb := hpb.gr g
  replace hpl := hpl.gr g
  clear g
  refine Y.pg F 2 5 false (X.binop rfl (F.ev 7 (Vi (chkE p))) (X.kc (Vi 0) rfl) (X.eqlI Try.underlying31 rfl)) ?_;clear F ac;intro ac F
  refine Y.pg F 2 5 false (X.move rfl (F.ev 8 (.bool ((chkE p : Int) == 0)))) ?_;clear F ac;intro ac F
  cases h10 : ((chkE p : Int) == 0) with
  | false =>
   try rw [h10] at F
   have h10p : ¬ (chkE p : Int) = 0 := by simpa using h10
   refine Y.ps F 6 9 false ?_;clear F ac;intro ac F
   refine Y.ps F 6 9 false ?_;clear F ac;intro ac F
   refine Y.ps F 6 9 false ?_;clear F ac;intro ac F
   refine Y.ps F 6 9 false ?_;clear F ac;intro ac F
   refine Y.ps F 6 9 false ?_;clear F ac;intro ac F
   refine Y.pn F 11 14 ?_;clear F ac;intro ac F
   refine Y.pn F 11 14 ?_;clear F ac;intro ac F
   refine Y.pn F 11 14 ?_;clear F ac;intro ac F
   refine Y.pn F 11 14 ?_;clear F ac;intro ac F
   refine Y.ps F 6 9 false ?_;clear F ac;intro ac F
   refine Y.pg F 2 5 false (X.pickF rfl (F.ev 9 (.bool false)) (X.kc (.bool false) rfl)) ?_;clear F ac;intro ac F
   refine Y.pv2 F (X.pickF rfl (F.ev 5 (.bool false)) (F.ev 20 (.bool false))) (fun _ F=>X.assign rfl (F.ev 21 (.bool false))) ?_;clear F ac;intro ac F
   refine Y.nt F [(2, .bool false)] ?_;clear F ac;intro ac F
   refine Y.ret ?_
   exact Y.ret0 (v := .bool false) F (Y.r1 F) ⟨by unfold largeB; rw [h8, decide_eq_false (by omega : ¬ chkE p = 0)]; rfl, G⟩
  | true =>
   try rw [h10] at F
   have h10p : (chkE p : Int) = 0 := by simpa using h10
   refine Y.pg F 6 9 true (X.field rfl (F.ev 1 (Vp w.heap.size)) (X.fld Try.underlying27 rfl (Try.siz22 _) rfl rfl)) ?_;clear F ac;intro ac F
   refine Y.pg F 6 9 true (X.load rfl (F.ev 10 (Vp w.heap.size)) (X.ld1 (Try.agg22 _) (hC.at 0 rfl))) ?_;clear F ac;intro ac F
   refine Y.pg F 6 9 true (X.len1 Try.underlying22 rfl (F.ev 11 (.slice ta p.nt tc))) ?_;clear F ac;intro ac F
   refine Y.pg F 6 9 true (X.binop rfl (F.ev 12 (Vi p.nt)) (X.kc (Vi 5) rfl) (X.gtrI Try.underlying3 rfl)) ?_;clear F ac;intro ac F
   refine Y.pg F 6 9 true (X.move rfl (F.ev 13 (.bool (decide ((5 : Int) < p.nt))))) ?_;clear F ac;intro ac F
   cases h11 : decide ((5 : Int) < p.nt) with
   | false =>
    try rw [h11] at F
    have h11p : ¬ ((5 : Int) < p.nt) := of_decide_eq_false h11
    refine Y.pg F 11 14 false (X.field rfl (F.ev 1 (Vp w.heap.size)) (X.fld Try.underlying27 rfl (Try.siz23 _) rfl rfl)) ?_;clear F ac;intro ac F
    refine Y.pg F 11 14 false (X.load rfl (F.ev 15 (.pointer (some ⟨w.heap.size, 1, none⟩))) (X.ld1 (Try.agg23 _) (hC.at 1 rfl))) ?_;clear F ac;intro ac F
    refine Y.pg F 11 14 false (X.len1 Try.underlying23 rfl (F.ev 16 (.slice ha p.nh hc))) ?_;clear F ac;intro ac F
    refine Y.pg F 11 14 false (X.binop rfl (F.ev 17 (Vi p.nh)) (X.kc (Vi 4) rfl) (X.gtrI Try.underlying3 rfl)) ?_;clear F ac;intro ac F
    refine Y.pg F 6 9 true (X.pickF rfl (F.ev 14 (.bool false)) (F.ev 18 (.bool (decide ((4 : Int) < p.nh))))) ?_;clear F ac;intro ac F
    refine Y.pg F 2 5 false (X.pickT rfl (F.ev 9 (.bool true)) (F.ev 19 (.bool (decide ((4 : Int) < p.nh))))) ?_;clear F ac;intro ac F
    refine Y.pv2 F (X.pickF rfl (F.ev 5 (.bool false)) (F.ev 20 (.bool (decide ((4 : Int) < p.nh))))) (fun _ F=>X.assign rfl (F.ev 21 (.bool (decide ((4 : Int) < p.nh))))) ?_;clear F ac;intro ac F
    refine Y.nt F [(2, .bool (decide ((4 : Int) < p.nh)))] ?_;clear F ac;intro ac F
    refine Y.ret ?_
    exact Y.ret0 (v := .bool (decide ((4 : Int) < p.nh))) F (Y.r1 F) ⟨by unfold largeB; rw [h8, decide_eq_true (by omega : chkE p = 0), decide_eq_false (by omega : ¬ 5 < p.nt), show decide ((4 : Int) < p.nh) = decide (4 < p.nh) from decide_eq_decide.2 (by omega)]; simp, G⟩
   | true =>
    try rw [h11] at F
    have h11p : ((5 : Int) < p.nt) := of_decide_eq_true h11
    refine Y.ps F 11 14 true ?_;clear F ac;intro ac F
    refine Y.ps F 11 14 true ?_;clear F ac;intro ac F
    refine Y.ps F 11 14 true ?_;clear F ac;intro ac F
    refine Y.ps F 11 14 true ?_;clear F ac;intro ac F
    refine Y.pg F 6 9 true (X.pickT rfl (F.ev 14 (.bool true)) (X.kc (.bool true) rfl)) ?_;clear F ac;intro ac F
    refine Y.pg F 2 5 false (X.pickT rfl (F.ev 9 (.bool true)) (F.ev 19 (.bool true))) ?_;clear F ac;intro ac F
    refine Y.pv2 F (X.pickF rfl (F.ev 5 (.bool false)) (F.ev 20 (.bool true))) (fun _ F=>X.assign rfl (F.ev 21 (.bool true))) ?_;clear F ac;intro ac F
    refine Y.nt F [(2, .bool true)] ?_;clear F ac;intro ac F
    refine Y.ret ?_
    exact Y.ret0 (v := .bool true) F (Y.r1 F) ⟨by unfold largeB; rw [h8, decide_eq_true (by omega : chkE p = 0), decide_eq_true (by omega : 5 < p.nt)]; rfl, G⟩
 | true =>
  try rw [h8] at F
  refine Y.ps F 2 5 true ?_;clear F ac;intro ac F
  refine Y.ps F 2 5 true ?_;clear F ac;intro ac F
  refine Y.ps F 2 5 true ?_;clear F ac;intro ac F
  refine Y.ps F 2 5 true ?_;clear F ac;intro ac F
  refine Y.pn F 6 9 ?_;clear F ac;intro ac F
  refine Y.pn F 6 9 ?_;clear F ac;intro ac F
  refine Y.pn F 6 9 ?_;clear F ac;intro ac F
  refine Y.pn F 6 9 ?_;clear F ac;intro ac F
  refine Y.pn F 6 9 ?_;clear F ac;intro ac F
  refine Y.pn F 11 14 ?_;clear F ac;intro ac F
  refine Y.pn F 11 14 ?_;clear F ac;intro ac F
  refine Y.pn F 11 14 ?_;clear F ac;intro ac F
  refine Y.pn F 11 14 ?_;clear F ac;intro ac F
  refine Y.pn F 6 9 ?_;clear F ac;intro ac F
  refine Y.ps F 2 5 true ?_;clear F ac;intro ac F
  refine Y.pv2 F (X.pickT rfl (F.ev 5 (.bool true)) (X.kc (.bool true) rfl)) (fun _ F=>X.assign rfl (F.ev 21 (.bool true))) ?_;clear F ac;intro ac F
  refine Y.nt F [(2, .bool true)] ?_;clear F ac;intro ac F
  refine Y.ret ?_
  exact Y.ret0 (v := .bool true) F (Y.r1 F) ⟨by unfold largeB; rw [h8]; rfl, G⟩
theorem same_yes {xs ys : List Int} (hl : xs.length = ys.length) (h : ∀ j, j < xs.length → xs[j]?.getD 0 = ys[j]?.getD 0) : decide (xs = ys) = true := by
 refine decide_eq_true (List.ext_getElem hl fun i h1 h2 => ?_)
 have := h i h1
 simpa [h1, h2] using this
theorem same_no {xs ys : List Int} {j : Nat} (hj : j < xs.length) (hl : xs.length = ys.length) (h : ¬ xs[j]?.getD 0 = ys[j]?.getD 0) : decide (xs = ys) = false :=
 decide_eq_false fun e => h (by rw [e])
set_option maxRecDepth 100000 in
set_option maxHeartbeats 400000 in
theorem same_any (a b : Option Addr) (c d : Nat) (xs ys : List Int) (w : World) (hX : Ints w a xs.length xs) (hY : Ints w b ys.length ys) :
  Calls Try.prog 24 #[.slice a xs.length c, .slice b ys.length d] w fun e w' => e = .returned (.bool (decide (xs = ys))) ∧ Gr w w' := by
 have G := Gr.refl w
 have hx := hX
 have hy := hY
 have hlt := hX.lt
 have hlt2 := hY.lt
 refine Y.calls 26 Try.func24 rfl rfl ?_
 intro ac F0
 have F : Fr ac 26 [(0, .slice a xs.length c), (1, .slice b ys.length d)] := F0.sub _
 clear F0
 refine Y.sg F [(0, .slice a xs.length c), (1, .slice b ys.length d)] (Y.pv F (X.assign rfl (X.kc (.bool false) rfl)) fun ac F=>Y.fin F) ?_;clear F ac;intro ac F
 refine Y.seq ?_
 refine Y.sg F [(0, .slice a xs.length c), (1, .slice b ys.length d), (10, .bool ((xs.length : Int) != ys.length))] (Y.pv F (X.move rfl (F.ev 0 (.slice a xs.length c))) fun ac F=>Y.pv F (X.len1 Try.underlying34 rfl (F.ev 6 (.slice a xs.length c))) fun ac F=>Y.pv F (X.move rfl (F.ev 1 (.slice b ys.length d))) fun ac F=>Y.pv F (X.len1 Try.underlying34 rfl (F.ev 8 (.slice b ys.length d))) fun ac F=>Y.pv F (X.binop rfl (F.ev 7 (Vi xs.length)) (F.ev 9 (Vi ys.length)) (X.neqI Try.underlying3 rfl)) fun ac F=>Y.fin F) ?_;clear F ac;intro ac F
 cases h3 : ((xs.length : Int) != ys.length) with
 | false =>
  try rw [h3] at F
  have h3p : (xs.length : Int) = ys.length := by simpa using h3
  have hl2 : xs.length = ys.length := by omega
  refine Y.condF (F.ev 10 (.bool false)) ?_
  refine Y.skip ?_
  refine X.thenN ?_
  refine Y.seq ?_
  refine Y.sg F [(0, .slice a xs.length c), (1, .slice b ys.length d), (5, Vi 0)] (Y.pv F (X.assign rfl (X.kc (Vi 0) rfl)) fun ac F=>Y.fin F) ?_;clear F ac;intro ac F
  refine Y.block ?_
  refine Y.loop (fun me_ ac wr => ∃ (i : Nat), me_ = xs.length - i ∧ Only (fun b => False) w wr ∧ i ≤ xs.length ∧ (∀ j, j < i → xs[j]?.getD 0 = ys[j]?.getD 0) ∧ Fr ac 26 [(0, .slice a xs.length c), (1, .slice b ys.length d), (5, Vi i)]) _ ⟨0, rfl, Only.refl _ _, Nat.zero_le _, fun j h => by omega, F.sub _⟩ ?_
  have hxB1 := hx
  have hyB1 := hy
  have GB1 := G
  clear F ac
  intro me_ ac w4 hI
  obtain ⟨i, rfl, hO1, hi, hsame, F⟩ := hI
  replace G := GB1.trans (hO1.gr (fun _ _ h => h))
  replace hx := (hX).gr G
  replace hy := (hY).gr G
  refine Y.seq ?_
  refine Y.sg F [(0, .slice a xs.length c), (1, .slice b ys.length d), (5, Vi i), (14, .bool (decide ((i : Int) < xs.length)))] (Y.pv F (X.move rfl (F.ev 5 (Vi i))) fun ac F=>Y.pv F (X.move rfl (F.ev 0 (.slice a xs.length c))) fun ac F=>Y.pv F (X.len1 Try.underlying34 rfl (F.ev 12 (.slice a xs.length c))) fun ac F=>Y.pv F (X.binop rfl (F.ev 11 (Vi i)) (F.ev 13 (Vi xs.length)) (X.lssI Try.underlying3 rfl)) fun ac F=>Y.fin F) ?_;clear F ac;intro ac F
  cases h5 : decide ((i : Int) < xs.length) with
  | false =>
   try rw [h5] at F
   have h5p : ¬ ((i : Int) < xs.length) := of_decide_eq_false h5
   have hin : i = xs.length := by omega
   refine Y.condF (F.ev 14 (.bool false)) ?_
   refine Y.exit ?_
   refine X.thenX (X.thenX (X.blockX (X.thenN ?_)))
   refine Y.sg F [(4, .bool true)] (Y.pv F (X.assign rfl (X.kc (.bool true) rfl)) fun ac F=>Y.fin F) ?_;clear F ac;intro ac F
   refine Y.ret ?_
   exact Y.ret0 (v := .bool true) F (Y.r1 F) ⟨by rw [same_yes hl2 (fun j hj => hsame j (by omega))], G⟩
  | true =>
   try rw [h5] at F
   have h5p : ((i : Int) < xs.length) := of_decide_eq_true h5
   refine Y.condT (F.ev 14 (.bool true)) ?_
   refine Y.skip ?_
   refine X.thenN ?_
   refine Y.seq ?_
   refine Y.block ?_
   refine Y.seq ?_
   obtain ⟨pd6, pe6, -, pc6⟩ := hx.at (j := i) (by omega)
   subst pe6
   have hC : RCells w4 [(pd6.add i, Vi (xs[i]?.getD 0))] := (RCells.cons pc6 (RCells.nil _))
   clear pc6
   obtain ⟨pd7, pe7, -, pc7⟩ := hy.at (j := i) (by omega)
   subst pe7
   replace hC := hC.append (show RCells w4 ([(pd7.add i, Vi (ys[i]?.getD 0))]) from (RCells.cons pc7 (RCells.nil _)))
   clear pc7
   refine Y.region F [some (.slice (some pd6) xs.length c), some (Vi i), some (.pointer (some (pd6.add i))), some (Vi (xs[i]?.getD 0)), some (.slice (some pd7) ys.length d), some (Vi i), some (.pointer (some (pd7.add i))), some (Vi (ys[i]?.getD 0)), some (.bool ((xs[i]?.getD 0 : Int) != (ys[i]?.getD 0)))] [] rfl ⟨by kernel_rfl, of_decide_eq_true (by kernel_rfl), by kernel_rfl, by kernel_rfl, by kernel_rfl⟩ ⟨?_, ?_, ?_, ?_, ?_, ?_, ?_, ?_, ?_, trivial⟩ ?_
   ·intro ac done u W Sx hR
    exact X.vl (X.move rfl (Sx.ev 0 (.slice (some pd6) xs.length c))) hR.st0
   ·intro ac done u W Sx hR
    exact X.vl (X.move rfl (Sx.ev 5 (Vi i))) hR.st0
   ·intro ac done u W Sx hR
    exact X.val (X.w0 rfl) rfl (X.index rfl (Sx.ev 17 (.slice (some pd6) xs.length c)) (Sx.ev 18 (Vi i)) (X.idx (k := i) Try.underlying34 (Try.siz3 _) (by omega) (by omega) (by rw [Nat.mul_one]))) hR.st0
   ·intro ac done u W Sx hR
    have g : Gr w4 W := hR.1
    exact X.vl (X.load rfl (Sx.ev 19 (.pointer (some (pd6.add i)))) (X.ld1 (Try.agg3 _) ((hC.gr g).at 0 rfl))) hR.st0
   ·intro ac done u W Sx hR
    exact X.vl (X.move rfl (Sx.ev 1 (.slice (some pd7) ys.length d))) hR.st0
   ·intro ac done u W Sx hR
    exact X.vl (X.move rfl (Sx.ev 5 (Vi i))) hR.st0
   ·intro ac done u W Sx hR
    exact X.val (X.w0 rfl) rfl (X.index rfl (Sx.ev 21 (.slice (some pd7) ys.length d)) (Sx.ev 22 (Vi i)) (X.idx (k := i) Try.underlying34 (Try.siz3 _) (by omega) (by omega) (by rw [Nat.mul_one]))) hR.st0
   ·intro ac done u W Sx hR
    have g : Gr w4 W := hR.1
    exact X.vl (X.load rfl (Sx.ev 23 (.pointer (some (pd7.add i)))) (X.ld1 (Try.agg3 _) ((hC.gr g).at 1 rfl))) hR.st0
   ·intro ac done u W Sx hR
    exact X.vl (X.binop rfl (Sx.ev 20 (Vi (xs[i]?.getD 0))) (Sx.ev 24 (Vi (ys[i]?.getD 0))) (X.neqI Try.underlying3 rfl)) hR.st0
   intro ac u w8 hs hd hl ho hR
   have g : Gr w4 w8 := hR.1
   replace F : Fr ac 26 [(0, .slice (some pd6) xs.length c), (1, .slice (some pd7) ys.length d), (5, Vi i), (25, .bool ((xs[i]?.getD 0 : Int) != (ys[i]?.getD 0)))] := X.fr hs hd hl _ (by kernel_rfl)
   clear hs hd hl ho hR
   replace G := G.trans g
   replace hC := hC.gr g
   replace hO1 := hO1.thenGr g
   replace hx := hx.gr g
   replace hy := hy.gr g
   clear g
   refine X.thenN ?_
   cases h9 : ((xs[i]?.getD 0 : Int) != (ys[i]?.getD 0)) with
   | false =>
    try rw [h9] at F
    have h9p : (xs[i]?.getD 0 : Int) = (ys[i]?.getD 0) := by simpa using h9
    refine Y.condF (F.ev 25 (.bool false)) ?_
    refine Y.skip ?_
    refine X.blockN (X.thenN ?_)
    refine Y.lg F [(0, .slice (some pd6) xs.length c), (1, .slice (some pd7) ys.length d), (5, Vi ((i : Int) + 1))] (by
     refine Y.pv F (X.move rfl (F.ev 5 (Vi i))) fun ac F=>?_
     refine Y.pv F (X.binop rfl (F.ev 15 (Vi i)) (X.kc (Vi 1) rfl) (X.addI Try.underlying3 rfl (by omega) (by omega))) fun ac F=>?_
     refine Y.pv F (X.assign rfl (F.ev 16 (Vi ((i : Int) + 1)))) fun ac F=>?_
     exact Y.fin F) ?_;clear F ac;intro ac F
    refine ⟨_, ?_, i + 1, rfl, hO1, by omega, fun j hj => if e : j = i then by rw [e]; exact (by simpa using h9p) else hsame j (by omega), F.sub _⟩
    omega
   | true =>
    try rw [h9] at F
    have h9p : ¬ (xs[i]?.getD 0 : Int) = (ys[i]?.getD 0) := by simpa using h9
    refine Y.condT (F.ev 25 (.bool true)) ?_
    refine Y.sg F [(4, .bool false)] (Y.pv F (X.assign rfl (X.kc (.bool false) rfl)) fun ac F=>Y.fin F) ?_;clear F ac;intro ac F
    refine Y.ret ?_
    refine X.blockR (X.thenR (X.thenR (X.blockR (X.thenR ?_))))
    exact Y.ret0 (v := .bool false) F (Y.r1 F) ⟨by rw [same_no (j := i) (by omega) hl2 (by simpa using h9p)], G⟩
 | true =>
  try rw [h3] at F
  have h3p : ¬ (xs.length : Int) = ys.length := by simpa using h3
  refine Y.condT (F.ev 10 (.bool true)) ?_
  refine Y.sg F [(4, .bool false)] (Y.pv F (X.assign rfl (X.kc (.bool false) rfl)) fun ac F=>Y.fin F) ?_;clear F ac;intro ac F
  refine Y.ret ?_
  refine X.thenR ?_
  exact Y.ret0 (v := .bool false) F (Y.r1 F) ⟨by rw [show decide (xs = ys) = false by simp only [decide_eq_false_iff_not]; intro e; subst e; omega], G⟩
end
section
open Go.RowKit

section
variable {p : Pb} {plan : List Int} {host : Int}
end
theorem usn_no {xs : List Int} {h : Int} {k : Nat} (e : usedN xs h k = false) (f : ¬ h = xs[k]?.getD 0) : usedN xs h (k + 1) = false := by
  simp only [usedN, e, Bool.false_or]; exact decide_eq_false fun g => f g.symm
theorem usn_in {xs : List Int} {h : Int} {k : Nat} (hk : k < xs.length) (f : h = xs[k]?.getD 0) : usesB xs h = true := usedN_iff.2 ⟨k, hk, f.symm⟩
set_option maxRecDepth 100000 in
set_option maxHeartbeats 400000 in
theorem index_any (a : Option Addr) (c : Nat) (xs : List Int) (h9 : Int) (w : World) (hX : Ints w a xs.length xs) :
  Calls Try.prog 109 #[.slice a xs.length c, Vi h9] w fun e w' => ∃ z : Int, e = .returned (Vi z) ∧ decide (0 ≤ z) = usesB xs h9 ∧ Gr w w' := by
 have G := Gr.refl w
 have hxs := hX
 have hlt := hX.lt
 refine Y.calls 19 Try.func109 rfl rfl ?_
 intro ac F0
 have F : Fr ac 19 [(0, .slice a xs.length c), (1, Vi h9)] := F0.sub _
 clear F0
 refine Y.sg F [(0, .slice a xs.length c), (1, Vi h9)] (Y.pv F (X.assign rfl (X.kc (Vi 0) rfl)) fun ac F=>Y.fin F) ?_;clear F ac;intro ac F
 refine Y.seq ?_
 refine Y.sg F [(0, .slice a xs.length c), (1, Vi h9), (7, Vi xs.length), (8, Vi 0)] (Y.pv F (X.move rfl (F.ev 0 (.slice a xs.length c))) fun ac F=>Y.pv F (X.len1 Try.underlying34 rfl (F.ev 6 (.slice a xs.length c))) fun ac F=>Y.pv F (X.move rfl (X.kc (Vi 0) rfl)) fun ac F=>Y.fin F) ?_;clear F ac;intro ac F
 refine Y.block ?_
 refine Y.loop (fun me_ ac wr => ∃ (k : Nat), me_ = xs.length - k ∧ Only (fun b => False) w wr ∧ k ≤ xs.length ∧ usedN xs h9 k = false ∧ Fr ac 19 [(0, .slice a xs.length c), (1, Vi h9), (7, Vi xs.length), (8, Vi k)]) _ ⟨0, rfl, Only.refl _ _, Nat.zero_le _, rfl, F.sub _⟩ ?_
 have hxsB1 := hxs
 have GB1 := G
 clear F ac
 intro me_ ac w3 hI
 obtain ⟨k, rfl, hO1, hk, hno, F⟩ := hI
 replace G := GB1.trans (hO1.gr (fun _ _ h => h))
 replace hxs := (hX).gr G
 refine Y.sg F [(0, .slice a xs.length c), (1, Vi h9), (7, Vi xs.length), (8, Vi k), (9, .bool (decide ((k : Int) < xs.length)))] (Y.pv F (X.binop rfl (F.ev 8 (Vi k)) (F.ev 7 (Vi xs.length)) (X.lssI Try.underlying3 rfl)) fun ac F=>Y.fin F) ?_;clear F ac;intro ac F
 refine Y.seq ?_
 cases h4 : decide ((k : Int) < xs.length) with
 | false =>
  try rw [h4] at F
  have h4p : ¬ ((k : Int) < xs.length) := of_decide_eq_false h4
  obtain rfl : k = xs.length := by omega
  refine Y.condF (F.ev 9 (.bool false)) ?_
  refine Y.exit ?_
  refine X.thenX (X.thenX (X.blockX (X.thenN ?_)))
  refine Y.sg F [(4, Vi (-1))] (Y.pv F (X.assign rfl (X.kc (Vi (-1)) rfl)) fun ac F=>Y.fin F) ?_;clear F ac;intro ac F
  refine Y.ret ?_
  exact Y.ret0 (v := Vi (-1)) F (Y.r1 F) ⟨_, rfl, (decide_eq_false (by omega)).trans hno.symm, G⟩
 | true =>
  try rw [h4] at F
  have h4p : ((k : Int) < xs.length) := of_decide_eq_true h4
  refine Y.condT (F.ev 9 (.bool true)) ?_
  refine Y.skip ?_
  refine X.thenN ?_
  refine Y.seq ?_
  refine Y.block ?_
  refine Y.sg F [(0, .slice a xs.length c), (1, Vi h9), (5, Vi k), (7, Vi xs.length), (8, Vi k)] (Y.pv F (X.move rfl (F.ev 8 (Vi k))) fun ac F=>Y.pv F (X.assign rfl (F.ev 10 (Vi k))) fun ac F=>Y.fin F) ?_;clear F ac;intro ac F
  refine Y.sl ?_
  refine Y.pv3 F (X.move rfl (F.ev 1 (Vi h9))) (fun _ F=>X.move rfl (F.ev 0 (.slice a xs.length c))) (fun _ F=>X.move rfl (F.ev 5 (Vi k))) ?_;clear F ac;intro ac F
  obtain ⟨pd5, pe5, -, pc5⟩ := hxs.at (j := k) (by omega)
  subst pe5
  have hC : RCells w3 [(pd5.add k, Vi (xs[k]?.getD 0))] := (RCells.cons pc5 (RCells.nil _))
  clear pc5
  refine Y.pval F (X.w0 rfl) rfl (X.index rfl (F.ev 12 (.slice (some pd5) xs.length c)) (F.ev 13 (Vi k)) (X.idx (k := k) Try.underlying34 (Try.siz3 _) (by omega) (by omega) (by rw [Nat.mul_one]))) ?_;clear F ac;intro ac F
  refine Y.pv2 F (X.load rfl (F.ev 14 (.pointer (some (pd5.add k)))) (X.ld1 (Try.agg3 _) (hC.at 0 rfl))) (fun _ F=>X.binop rfl (F.ev 11 (Vi h9)) (F.ev 15 (Vi (xs[k]?.getD 0))) (X.eqlI Try.underlying3 rfl)) ?_;clear F ac;intro ac F
  refine Y.nt F [(0, .slice (some pd5) xs.length c), (1, Vi h9), (5, Vi k), (7, Vi xs.length), (8, Vi k), (16, .bool ((h9 : Int) == (xs[k]?.getD 0)))] ?_;clear F ac;intro ac F
  cases h6 : ((h9 : Int) == (xs[k]?.getD 0)) with
  | false =>
   try rw [h6] at F
   have h6p : ¬ (h9 : Int) = (xs[k]?.getD 0) := by simpa using h6
   refine Y.condF (F.ev 16 (.bool false)) ?_
   refine Y.skip ?_
   refine X.blockN (X.thenN ?_)
   refine Y.lg F [(0, .slice (some pd5) xs.length c), (1, Vi h9), (7, Vi xs.length), (8, Vi ((k : Int) + 1))] (by
    refine Y.pv F (X.binop rfl (F.ev 8 (Vi k)) (X.kc (Vi 1) rfl) (X.addI Try.underlying3 rfl (by omega) (by omega))) fun ac F=>?_
    refine Y.pv F (X.move rfl (F.ev 18 (Vi ((k : Int) + 1)))) fun ac F=>?_
    exact Y.fin F) ?_;clear F ac;intro ac F
   refine ⟨_, ?_, k + 1, rfl, hO1, by omega, usn_no hno (by simpa using h6p), F.sub _⟩
   omega
  | true =>
   try rw [h6] at F
   have h6p : (h9 : Int) = (xs[k]?.getD 0) := by simpa using h6
   refine Y.condT (F.ev 16 (.bool true)) ?_
   refine Y.sg F [(4, Vi k)] (Y.pv F (X.move rfl (F.ev 5 (Vi k))) fun ac F=>Y.pv F (X.assign rfl (F.ev 17 (Vi k))) fun ac F=>Y.fin F) ?_;clear F ac;intro ac F
   refine Y.ret ?_
   refine X.blockR (X.thenR (X.thenR (X.blockR (X.thenR ?_))))
   exact Y.ret0 (v := Vi k) F (Y.r1 F) ⟨_, rfl, (decide_eq_true (by omega)).trans (usn_in (k := k) (by omega) (by simpa using h6p)).symm, G⟩
set_option maxRecDepth 100000 in
set_option maxHeartbeats 400000 in
theorem contains_any (a : Option Addr) (c : Nat) (xs : List Int) (h9 : Int) (w : World) (hX : Ints w a xs.length xs) :
  Calls Try.prog 80 #[.slice a xs.length c, Vi h9] w fun e w' => e = .returned (.bool (usesB xs h9)) ∧ Gr w w' := by
 have G := Gr.refl w
 have hxs := hX
 refine Y.calls 9 Try.func80 rfl rfl ?_
 intro ac F0
 have F : Fr ac 9 [(0, .slice a xs.length c), (1, Vi h9)] := F0.sub _
 clear F0
 refine Y.sg F [(0, .slice a xs.length c), (1, Vi h9)] (Y.pv F (X.assign rfl (X.kc (.bool false) rfl)) fun ac F=>Y.fin F) ?_;clear F ac;intro ac F
 refine Y.sl ?_
 refine Y.pv2 F (X.move rfl (F.ev 0 (.slice a xs.length c))) (fun _ F=>X.move rfl (F.ev 1 (Vi h9))) ?_;clear F ac;intro ac F
 refine Y.pc F 109 (X.a2 (F.ev 5 (.slice a xs.length c)) (F.ev 6 (Vi h9))) Try.func109 (index_any a c xs h9 w hxs) ?_
 clear F ac
 rintro e w3 ⟨z, rfl, hz, g⟩
 refine ⟨_, rfl, ?_⟩
 intro ac F
 replace G := G.trans g
 replace hxs := hxs.gr g
 clear g
 refine Y.pv2 F (X.binop rfl (F.ev 7 (Vi z)) (X.kc (Vi 0) rfl) (X.geqI Try.underlying3 rfl)) (fun _ F=>X.assign rfl (F.ev 8 (.bool (decide ((0 : Int) ≤ z))))) ?_;clear F ac;intro ac F
 refine Y.nt F [(4, .bool (decide ((0 : Int) ≤ z)))] ?_;clear F ac;intro ac F
 refine Y.ret ?_
 exact Y.ret0 (v := .bool (decide ((0 : Int) ≤ z))) F (Y.r1 F) ⟨by rw [← hz], G⟩
end
section
open Go.RowKit
end
section
open Go.RowKit
end
end Go.Proofs.Ytodedneanlekdaa
