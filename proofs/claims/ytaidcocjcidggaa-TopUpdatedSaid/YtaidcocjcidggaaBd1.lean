/- Several texts of this claim in one file. (1) Words for memory that the contracts of this seat share: growth of the world, slices of numbers, lists of lists, clashes. Nothing of the program is proved here. (2) Arguments that came in: a fleet, a state, a trip, read off their data. (3) A rule for a region that draws its order: each operation is looked at once, in whatever world and frame its forerunners have left; no order is named. Nothing of the program is proved here. (4) The rule for a region that draws its order, where what the slots held before is known. Nothing of the program is proved here. (5) A walk by lemmas: frames that are known slot by slot, and one rule for regions, drawn or not. Nothing of the program is proved here. (6) Plain words for chapter 11: times of steps, valid fleets and states, clashes. No program in sight. (7) Contracts of the functions that compare slices of numbers: slices.Equal, sameInts, same, above, within. (8) Contracts of the clashes: clash, works, and the reference clash; version. (9) Plain words: when a fleet and a state are valid, as tests. (10) Contract of update.Check. -/
import Derived.WalkKit
import Derived.Deep.Draws
import Derived.Lib.Hide
import Derived.Test.YtaidcocjcidggaaChecked
import Derived.Deep.Slices
import Derived.Deep.Fields
import Derived.ChangeSame
import Derived.Lib.SmallJoins
import Derived.SizedLaws
import Derived.ProofKit
import Derived.OrdersIn
import Derived.Below
import Derived.RangeFuncIn
import Derived.Test.YtaidcocjcidggaaProg
import Derived.Deep.QuietTactic
import Derived.BigQuiet
import Derived.Outline
namespace Go.Proofs.Ytaidcocjcidggaa
set_option linter.unusedSimpArgs false
set_option linter.unusedVariables false
section
open Go.RowKit

/-- The world has only grown: whatever lay lies as it lay. -/
def Gr (w w' : World) : Prop := Below w.heap.size w w'

theorem Gr.refl (w : World) : Gr w w := Below.refl _ _
theorem Gr.trans {a b c : World} (h : Gr a b) (k : Gr b c) : Gr a c := Below.trans h (Below.mono k (Below.size h))
theorem Gr.drewN (w : World) (n : Nat) : Gr w (w.drewN n) := ⟨rfl, rfl, rfl, Nat.le_refl _, fun _ _ => rfl⟩
theorem Gr.drew (w : World) : Gr w w.drew := Below.drew (Below.refl _ _)
theorem Gr.alloc (w : World) (o : Obj) : Gr w (w.alloc o) := Below.alloc (Below.refl _ _) (Nat.le_refl _) o
theorem Gr.size {a b : World} (h : Gr a b) : a.heap.size ≤ b.heap.size := Below.size h
theorem Gr.below {a b : World} (h : Gr a b) : Below a.heap.size a b := h
theorem Gr.cell {a b : World} (h : Gr a b) {p : Addr} (hp : p.block < a.heap.size) : b.cell? p = a.cell? p := Below.cell h hp
theorem Gr.frozen {a b : World} (h : Gr a b) {p : Addr} (hp : p.block < a.heap.size) : b.frozen? p = a.frozen? p := Below.frozen h hp
theorem Gr.setCell {a b : World} (h : Gr a b) {p : Addr} (hp : a.heap.size ≤ p.block) (u : Value) : Gr a (b.setCell p u) := Below.setCell h hp u
theorem Gr.allocR {a b : World} (h : Gr a b) (o : Obj) : Gr a (b.alloc o) := h.trans (Gr.alloc _ _)
theorem Gr.drewR {a b : World} (h : Gr a b) : Gr a b.drew := h.trans (Gr.drew _)
theorem Gr.drewNR {a b : World} (h : Gr a b) (n : Nat) : Gr a (b.drewN n) := h.trans (Gr.drewN _ _)

theorem add_block (a : Addr) (n : Nat) : (a.add n).block = a.block := by unfold Addr.add; split <;> rfl

/-- The slice value with address a and length n holds the numbers xs. -/
def Ints (w : World) (a : Option Addr) (n : Nat) (xs : List Int) : Prop :=
  xs.length = n ∧ n < 1152921504606846976 ∧ ∀ j, j < n → ∃ ad, a = some ad ∧ ad.block < w.heap.size ∧ w.cell? (ad.add j) = some (.int .i64 (xs[j]?.getD 0))

theorem Ints.len {w : World} {a : Option Addr} {n : Nat} {xs : List Int} (h : Ints w a n xs) : xs.length = n := h.1
theorem Ints.lt {w : World} {a : Option Addr} {n : Nat} {xs : List Int} (h : Ints w a n xs) : n < 1152921504606846976 := h.2.1
theorem Ints.at {w : World} {a : Option Addr} {n : Nat} {xs : List Int} (h : Ints w a n xs) {j : Nat} (hj : j < n) : ∃ ad, a = some ad ∧ ad.block < w.heap.size ∧ w.cell? (ad.add j) = some (.int .i64 (xs[j]?.getD 0)) := h.2.2 j hj
theorem Ints.gr {w w' : World} {a : Option Addr} {n : Nat} {xs : List Int} (h : Ints w a n xs) (g : Gr w w') : Ints w' a n xs :=
  ⟨h.1, h.2.1, fun j hj => by
    obtain ⟨ad, e, hb, hc⟩ := h.2.2 j hj
    exact ⟨ad, e, Nat.lt_of_lt_of_le hb g.size, (g.cell (by rw [add_block]; exact hb)).trans hc⟩⟩

/-- The slice value with address a and length n holds slices that hold the lists L. -/
def RowsAt (w : World) (a : Option Addr) (n : Nat) (L : List (List Int)) : Prop :=
  L.length = n ∧ n < 1152921504606846976 ∧ ∀ j, j < n → ∃ ad a' n' c', a = some ad ∧ ad.block < w.heap.size ∧ w.cell? (ad.add j) = some (.slice a' n' c') ∧ Ints w a' n' (L[j]?.getD [])

theorem RowsAt.len {w : World} {a : Option Addr} {n : Nat} {L : List (List Int)} (h : RowsAt w a n L) : L.length = n := h.1
theorem RowsAt.lt {w : World} {a : Option Addr} {n : Nat} {L : List (List Int)} (h : RowsAt w a n L) : n < 1152921504606846976 := h.2.1
theorem RowsAt.at {w : World} {a : Option Addr} {n : Nat} {L : List (List Int)} (h : RowsAt w a n L) {j : Nat} (hj : j < n) :
    ∃ ad a' n' c', a = some ad ∧ ad.block < w.heap.size ∧ w.cell? (ad.add j) = some (.slice a' n' c') ∧ Ints w a' n' (L[j]?.getD []) := h.2.2 j hj
theorem RowsAt.gr {w w' : World} {a : Option Addr} {n : Nat} {L : List (List Int)} (h : RowsAt w a n L) (g : Gr w w') : RowsAt w' a n L :=
  ⟨h.1, h.2.1, fun j hj => by
    obtain ⟨ad, a', n', c', e, hb, hc, hi⟩ := h.2.2 j hj
    exact ⟨ad, a', n', c', e, Nat.lt_of_lt_of_le hb g.size, (g.cell (by rw [add_block]; exact hb)).trans hc, hi.gr g⟩⟩

/-- A clash: A, VersionA, B, VersionB. -/
structure Cl where
  a : Int
  va : Int
  b : Int
  vb : Int
instance : Inhabited Cl := ⟨⟨0, 0, 0, 0⟩⟩

def ClAt (w : World) (a : Option Addr) (n : Nat) (C : List Cl) : Prop :=
  C.length = n ∧ n < 1152921504606846976 ∧ ∀ j, j < n → ∃ ad, a = some ad ∧ ad.block < w.heap.size ∧
    w.cell? (ad.add (j * 4)) = some (.int .i64 (C[j]?.getD default).a) ∧ w.cell? ⟨(ad.add (j * 4)).block, (ad.add (j * 4)).off + 1, none⟩ = some (.int .i64 (C[j]?.getD default).va) ∧
    w.cell? ⟨(ad.add (j * 4)).block, (ad.add (j * 4)).off + 2, none⟩ = some (.int .i64 (C[j]?.getD default).b) ∧ w.cell? ⟨(ad.add (j * 4)).block, (ad.add (j * 4)).off + 3, none⟩ = some (.int .i64 (C[j]?.getD default).vb)

theorem ClAt.len {w : World} {a : Option Addr} {n : Nat} {C : List Cl} (h : ClAt w a n C) : C.length = n := h.1
theorem ClAt.lt {w : World} {a : Option Addr} {n : Nat} {C : List Cl} (h : ClAt w a n C) : n < 1152921504606846976 := h.2.1
theorem ClAt.at {w : World} {a : Option Addr} {n : Nat} {C : List Cl} (h : ClAt w a n C) {j : Nat} (hj : j < n) : ∃ ad, a = some ad ∧ ad.block < w.heap.size ∧
    w.cell? (ad.add (j * 4)) = some (.int .i64 (C[j]?.getD default).a) ∧ w.cell? ⟨(ad.add (j * 4)).block, (ad.add (j * 4)).off + 1, none⟩ = some (.int .i64 (C[j]?.getD default).va) ∧
    w.cell? ⟨(ad.add (j * 4)).block, (ad.add (j * 4)).off + 2, none⟩ = some (.int .i64 (C[j]?.getD default).b) ∧ w.cell? ⟨(ad.add (j * 4)).block, (ad.add (j * 4)).off + 3, none⟩ = some (.int .i64 (C[j]?.getD default).vb) := h.2.2 j hj
theorem ClAt.gr {w w' : World} {a : Option Addr} {n : Nat} {C : List Cl} (h : ClAt w a n C) (g : Gr w w') : ClAt w' a n C :=
  ⟨h.1, h.2.1, fun j hj => by
    obtain ⟨ad, e, hb, h0, h1, h2, h3⟩ := h.2.2 j hj
    exact ⟨ad, e, Nat.lt_of_lt_of_le hb g.size, (g.cell (by rw [add_block]; exact hb)).trans h0, (g.cell (by show (ad.add _).block < _; rw [add_block]; exact hb)).trans h1,
      (g.cell (by show (ad.add _).block < _; rw [add_block]; exact hb)).trans h2, (g.cell (by show (ad.add _).block < _; rw [add_block]; exact hb)).trans h3⟩⟩

/-- A fleet as data. -/
structure Fl where
  times : List (List Int)
  cl : List Cl

/-- The fleet value, its two slices, in memory. -/
structure FlAt (w : World) (ta : Option Addr) (tn : Nat) (ca : Option Addr) (cn : Nat) (f : Fl) : Prop where
  t : RowsAt w ta tn f.times
  c : ClAt w ca cn f.cl

theorem FlAt.gr {w w' : World} {ta : Option Addr} {tn : Nat} {ca : Option Addr} {cn : Nat} {f : Fl} (h : FlAt w ta tn ca cn f) (g : Gr w w') : FlAt w' ta tn ca cn f := ⟨h.t.gr g, h.c.gr g⟩

theorem ret_int {k : IntKind} {a b : Int} (h : a = b) : Ending.returned (.int k a) = .returned (.int k b) := by rw [h]
theorem ret_bool {a b : Bool} (h : a = b) : Ending.returned (.bool a) = .returned (.bool b) := by rw [h]
end
section
open Go.ChangeShapes Go.WideShapes Go.RowKit Go.Deep Go.Joins

/-- nothing in the datum passes the reach -/
def Wt {H : Type} (t : TypeId) (d : DataW H) : Prop := ∀ x ∈ d.weights Try.prog t, x ≤ reachBytes

theorem Wt.each {H : Type} {ts : List TypeId} {ds : List (DataW H)} (h : (DataW.weightsEach Try.prog ts ds).all (· ≤ reachBytes) = true) {j : Nat} {t : TypeId} {d : DataW H} (ht : ts[j]? = some t) (hd : ds[j]? = some d) : Wt t d := fun x hx => by
  have := List.all_eq_true.1 h _ (DataW.weights_mem_each ht hd x hx)
  simpa using this
theorem Wt.field {H : Type} {t : TypeId} {fs : Array Field} {parts : List (DataW H)} (hs : Try.prog.underlying t = some (.struct fs)) (h : Wt t (.agg parts)) {j : Nat} {ft : TypeId} {d : DataW H} (ht : (fs.toList.map (·.type))[j]? = some ft) (hd : parts[j]? = some d) : Wt ft d := fun x hx =>
  h x (by simp only [DataW.weights, hs]; exact DataW.weights_mem_each ht hd x hx)
theorem weights_all {H : Type} {e : TypeId} : ∀ {l : List (DataW H)} {d : DataW H}, d ∈ l → ∀ x ∈ d.weights Try.prog e, x ∈ DataW.weightsAll Try.prog e l := by
  intro l
  induction l with
  | nil => intro d h; simp at h
  | cons a l ih =>
    intro d h x hx
    simp only [DataW.weightsAll, List.mem_append]
    rcases List.mem_cons.1 h with rfl | h
    · exact .inl hx
    · exact .inr (ih h x hx)
theorem Wt.elem {H : Type} {t e : TypeId} {elems spare : List (DataW H)} (hs : Try.prog.underlying t = some (.slice e)) (h : Wt t (.slice elems spare)) {d : DataW H} (hd : d ∈ elems) : Wt e d := fun x hx =>
  h x (by simp only [DataW.weights, hs, List.mem_cons, List.mem_append]; exact .inr (.inl (weights_all hd x hx)))
theorem Wt.len {H : Type} {t e : TypeId} {elems spare : List (DataW H)} (hs : Try.prog.underlying t = some (.slice e)) (h : Wt t (.slice elems spare)) : (elems.length + spare.length) * Try.prog.bytesOf e ≤ reachBytes :=
  h _ (by simp only [DataW.weights, hs, List.mem_cons, true_or])

section
variable {H : Type} {enc : TypeId × Value → H} {w : World} {base : Nat} {spare : Nat → Bool} {held : Bool}

theorem cell_blk {w : World} {p : Addr} {v : Value} (h : w.cell? p = some v) : p.block < w.heap.size := by
  unfold World.cell? at h
  cases hb : w.heap[p.block]? with
  | none => rw [hb] at h; simp at h
  | some o => exact (Array.getElem?_eq_some_iff.1 hb).1

theorem Try.cells3 : Try.prog.cellsOf 3 = 1 := by kernel_rfl
theorem Try.bytes3 : Try.prog.bytesOf 3 = 8 := by kernel_rfl
theorem Try.bytes26 : Try.prog.bytesOf 26 = 24 := by kernel_rfl
theorem Try.bytes107 : Try.prog.bytesOf 107 = 32 := by kernel_rfl
theorem Try.cells26 : Try.prog.cellsOf 26 = 1 := by kernel_rfl
theorem Try.cells107 : Try.prog.cellsOf 107 = 4 := by kernel_rfl

/-- a slice of numbers -/
theorem open_st {fuel : Nat} {v : Value} {x : DataW H × List MemPlace} (h : DataW.trod enc Try.prog w base spare held fuel 26 [v] = some x) (hw : Wt 26 x.1) : ∃ a n c xs, v = .slice a n c ∧ Ints w a n xs := by
  rcases open_ints Try.underlying26 Try.underlying3 Try.cells3 h with ⟨hcs, _⟩ | ⟨a, len, cap, zs, hcs, _, hl, hm, hz, hx, hcell, hwz⟩
  · simp at hcs
    exact ⟨none, 0, 0, [], hcs, rfl, by omega, fun j hj => by omega⟩
  · simp at hcs
    subst hcs
    have hlz : len ≤ zs.length := by rw [hz]; split <;> omega
    have hb := by
      have h1 := hw
      rw [hx] at h1
      have := h1.len Try.underlying26
      rw [Try.bytes3] at this
      simp only [lits, List.length_map, List.length_take, List.length_drop, reachBytes] at this
      exact this
    refine ⟨some a, len, cap, zs.take len, rfl, by simp; omega, by omega, fun j hj => ?_⟩
    have hc := hcell j (by omega)
    refine ⟨a, rfl, ?_, ?_⟩
    · have := cell_blk hc; rwa [add_block] at this
    · rw [hc]; simp [hj, List.getD_eq_getElem?_getD]

/-- choose a list -/
theorem list_of {α : Type} {P : Nat → α → Prop} (d : α) : ∀ n, (∀ j, j < n → ∃ x, P j x) → ∃ L : List α, L.length = n ∧ ∀ j, j < n → P j (L[j]?.getD d) := by
  intro n
  induction n with
  | zero => intro _; exact ⟨[], rfl, fun j hj => by omega⟩
  | succ n ih =>
    intro h
    obtain ⟨L, hl, hL⟩ := ih (fun j hj => h j (by omega))
    obtain ⟨x, hx⟩ := h n (by omega)
    refine ⟨L ++ [x], by simp [hl], fun j hj => ?_⟩
    by_cases e : j = n
    · subst e; rw [← hl]; simpa [hl] using hx
    · rw [List.getElem?_append_left (by omega)]; exact hL j (by omega)

/-- a slice of slices of numbers -/
theorem open_rs {fuel : Nat} {v : Value} {x : DataW H × List MemPlace} (h : DataW.trod enc Try.prog w base spare held fuel 22 [v] = some x) (hw : Wt 22 x.1) : ∃ a n c L, v = .slice a n c ∧ RowsAt w a n L := by
  rcases open_slice Try.underlying22 h with ⟨hcs, _⟩ | ⟨a, len, cap, m, n, D, Pl, hcs, hb, hl, hm, hmm, hx, hi⟩
  · simp at hcs
    exact ⟨none, 0, 0, [], hcs, rfl, by omega, fun j hj => by omega⟩
  · simp at hcs
    subst hcs
    have hlm : len ≤ m := by rw [hmm]; split <;> omega
    have hw1 := hw
    rw [hx] at hw1
    have hlen := hw1.len Try.underlying22
    rw [Try.bytes26] at hlen
    simp only [List.length_map, List.length_range, reachBytes] at hlen
    obtain ⟨L, hL1, hL2⟩ := list_of (P := fun j xs => ∃ a' n' c', w.cell? (a.add j) = some (.slice a' n' c') ∧ Ints w a' n' xs) [] len (fun j hj => by
      obtain ⟨cs', hc, ht'⟩ := hi j (by omega)
      rw [Try.cells26, Nat.mul_one] at hc
      obtain ⟨_, hcl, hat⟩ := World.cells?_some hc
      match cs', hcl with
      | [v0], _ =>
        have hcell := hat 0 (by omega)
        have hwj : Wt 26 (D j) := hw1.elem Try.underlying22 (List.mem_map.2 ⟨j, List.mem_range.2 hj, rfl⟩)
        obtain ⟨a', n', c', xs, rfl, hI⟩ := open_st ht' hwj
        refine ⟨xs, a', n', c', ?_, hI⟩
        have e : (a.add j).add 0 = a.add j := by rw [Go.Deep.add_add]; rfl
        rw [e] at hcell
        simpa using hcell)
    refine ⟨some a, len, cap, L, rfl, hL1, by omega, fun j hj => ?_⟩
    obtain ⟨a', n', c', h1, h2⟩ := hL2 j hj
    exact ⟨a, a', n', c', rfl, by have := cell_blk h1; rwa [add_block] at this, h1, h2⟩

theorem four {α : Type} {l : List α} (h : l.length = 4) : ∃ a b c d, l = [a, b, c, d] := by
  match l, h with
  | [a, b, c, d], _ => exact ⟨a, b, c, d, rfl⟩

/-- a slice of clashes -/
theorem open_cl {fuel : Nat} {v : Value} {x : DataW H × List MemPlace} (h : DataW.trod enc Try.prog w base spare held fuel 23 [v] = some x) (hw : Wt 23 x.1) : ∃ a n c C, v = .slice a n c ∧ ClAt w a n C := by
  rcases open_slice Try.underlying23 h with ⟨hcs, _⟩ | ⟨a, len, cap, m, n, D, Pl, hcs, hb, hl, hm, hmm, hx, hi⟩
  · simp at hcs
    exact ⟨none, 0, 0, [], hcs, rfl, by omega, fun j hj => by omega⟩
  · simp at hcs
    subst hcs
    have hlm : len ≤ m := by rw [hmm]; split <;> omega
    have hw1 := hw
    rw [hx] at hw1
    have hlen := hw1.len Try.underlying23
    rw [Try.bytes107] at hlen
    simp only [List.length_map, List.length_range, reachBytes] at hlen
    obtain ⟨C, hC1, hC2⟩ := list_of (P := fun j (c : Cl) => w.cell? (a.add (j * 4)) = some (.int .i64 c.a) ∧ w.cell? ((a.add (j * 4)).add 1) = some (.int .i64 c.va) ∧ w.cell? ((a.add (j * 4)).add 2) = some (.int .i64 c.b) ∧ w.cell? ((a.add (j * 4)).add 3) = some (.int .i64 c.vb)) default len (fun j hj => by
      obtain ⟨cs', hc, ht'⟩ := hi j (by omega)
      rw [Try.cells107] at hc
      obtain ⟨_, hcl, hat⟩ := World.cells?_some hc
      obtain ⟨ys, n', hn', hy, hlen', hyl, hf⟩ := DataW.trod_struct Try.underlying107 ht'
      have hyl4 : ys.length = 4 := by simpa using hyl
      obtain ⟨c0, c1, c2, c3, rfl⟩ := four hcl
      obtain ⟨y0, y1, y2, y3, rfl⟩ := four hyl4
      · have f0 := hf 0 _ rfl
        have f1 := hf 1 _ rfl
        have f2 := hf 2 _ rfl
        have f3 := hf 3 _ rfl
        simp [Try.cells3] at f0 f1 f2 f3
        obtain ⟨i0, e0, _⟩ := DataW.trod_int Try.underlying3 f0
        obtain ⟨i1, e1, _⟩ := DataW.trod_int Try.underlying3 f1
        obtain ⟨i2, e2, _⟩ := DataW.trod_int Try.underlying3 f2
        obtain ⟨i3, e3, _⟩ := DataW.trod_int Try.underlying3 f3
        simp at e0 e1 e2 e3
        subst e0 e1 e2 e3
        exact ⟨⟨i0, i1, i2, i3⟩, hat 0 (by omega), hat 1 (by omega), hat 2 (by omega), hat 3 (by omega)⟩)
    refine ⟨some a, len, cap, C, rfl, hC1, by omega, fun j hj => ?_⟩
    obtain ⟨h0, h1, h2, h3⟩ := hC2 j hj
    exact ⟨a, rfl, by have := cell_blk h0; rwa [add_block] at this, h0, h1, h2, h3⟩

set_option maxRecDepth 100000 in
/-- a fleet -/
theorem open_fl {r : Reach} {b0 : Nat} {v : Value} {d : DataW H} {p : List MemPlace} (hv : Value.okWide Try.prog w r b0 25 v) (h : DataW.Trod enc Try.prog w base spare held 25 v d p) (hw : Wt 25 d) :
    ∃ ta tn tc ca cn cc f, v = .agg #[.slice ta tn tc, .slice ca cn cc] ∧ FlAt w ta tn ca cn f := by
  obtain ⟨v0, v1, y0, y1, n, rfl, rfl, _, h0, h1⟩ := open_agg2 Try.underlying25 (by kernel_rfl) (by kernel_rfl) hv h
  obtain ⟨ta, tn, tc, T, rfl, hT⟩ := open_rs h0 (hw.field Try.underlying25 (j := 0) (ft := 22) (by simp) (by simp))
  obtain ⟨ca, cn, cc, C, rfl, hC⟩ := open_cl h1 (hw.field Try.underlying25 (j := 1) (ft := 23) (by simp) (by simp))
  exact ⟨ta, tn, tc, ca, cn, cc, ⟨T, C⟩, rfl, hT, hC⟩


end
end
section
set_option linter.unusedVariables false
open Go.RowKit

/-- the frame with the values u in the slots that the operations write -/
def fillL (u : Nat → Value) : List Oper → Nat → Array Value → Array Value
  | [], _, t => t
  | o :: r, k, t => fillL u r (k + 1) (match o.dst with | some d => t.setIfInBounds d (u k) | none => t)

def dstsOf (l : List Oper) : List Tmp := l.filterMap (·.dst)

/-- p holds of each operation with its number -/
def AllIdx (p : Nat → Oper → Prop) : List Oper → Nat → Prop
  | [], _ => True
  | o :: r, k => p k o ∧ AllIdx p r (k + 1)

theorem AllIdx.at {p : Nat → Oper → Prop} : ∀ {l : List Oper} {k : Nat}, AllIdx p l k → ∀ i o, l[i]? = some o → p (k + i) o := by
  intro l
  induction l with
  | nil => intro k _ i o h; simp at h
  | cons x r ih =>
    intro k h i o hi
    cases i with
    | zero => simp at hi; subst hi; exact h.1
    | succ i =>
      have := ih h.2 i o (by simpa using hi)
      rw [show k + (i + 1) = k + 1 + i by omega]; exact this

/-- the direct forerunners of an operation -/
def fore (o : Oper) : List Nat := (o.after.toList.filter (Region.binds .any)).map (·.on)
/-- all forerunners: closed under fore, by n rounds -/
def anc (l : List Oper) : Nat → List Nat → List Nat
  | 0, s => s
  | n + 1, s => anc l n (s ++ s.flatMap fun j => match l[j]? with | some o => fore o | none => []).eraseDups

def upd (done : Nat → Bool) (i : Nat) : Nat → Bool := fun j => if j = i then true else done j

theorem fillL_size (u : Nat → Value) : ∀ (l : List Oper) (k : Nat) (t : Array Value), (fillL u l k t).size = t.size := by
  intro l
  induction l with
  | nil => intro k t; rfl
  | cons o r ih =>
    intro k t
    simp only [fillL, ih]
    split <;> simp

theorem fillL_set_comm (u : Nat → Value) : ∀ (l : List Oper) (k : Nat) (t : Array Value) (d : Nat) (v : Value), d ∉ dstsOf l → (fillL u l k t).setIfInBounds d v = fillL u l k (t.setIfInBounds d v) := by
  intro l
  induction l with
  | nil => intro k t d v _; rfl
  | cons o r ih =>
    intro k t d v hd
    simp only [fillL]
    cases ho : o.dst with
    | none =>
      have hd' : d ∉ dstsOf r := by simpa [dstsOf, List.filterMap_cons, ho] using hd
      exact ih (k + 1) t d v hd'
    | some e =>
      have hd' : d ≠ e ∧ d ∉ dstsOf r := by simpa [dstsOf, List.filterMap_cons, ho] using hd
      rw [ih (k + 1) _ d v hd'.2, Array.setIfInBounds_comm _ _ (Ne.symm hd'.1)]

theorem fillL_congr {u u' : Nat → Value} : ∀ (l : List Oper) (k : Nat) (t : Array Value), (∀ i, k ≤ i → i < k + l.length → u i = u' i) → fillL u l k t = fillL u' l k t := by
  intro l
  induction l with
  | nil => intro k t _; rfl
  | cons o r ih =>
    intro k t h
    simp only [fillL]
    have h0 : u k = u' k := h k (Nat.le_refl _) (by simp)
    rw [h0]
    exact ih (k + 1) _ (fun i h1 h2 => h i (by omega) (by simp at h2 ⊢; omega))

theorem fillL_put (u : Nat → Value) (v : Value) : ∀ (l : List Oper) (k i : Nat) (t : Array Value) (o : Oper) (d : Nat), (dstsOf l).Nodup → l[i]? = some o → o.dst = some d →
    (fillL u l k t).setIfInBounds d v = fillL (fun j => if j = k + i then v else u j) l k t := by
  intro l
  induction l with
  | nil => intro k i t o d _ h; simp at h
  | cons x r ih =>
    intro k i t o d hn hi hd
    cases i with
    | zero =>
      simp at hi
      subst hi
      have hnr : d ∉ dstsOf r := by
        have : (d :: dstsOf r).Nodup := by simpa [dstsOf, List.filterMap_cons, hd] using hn
        exact (List.nodup_cons.1 this).1
      simp only [fillL, hd, Nat.add_zero]
      rw [fillL_set_comm u r (k + 1) _ d v hnr, Array.setIfInBounds_setIfInBounds]
      simp only [if_true]
      exact fillL_congr r (k + 1) _ (fun j h1 _ => by rw [if_neg (by omega)])
    | succ i =>
      have hnr : (dstsOf r).Nodup := by
        cases hx : x.dst with
        | none => simpa [dstsOf, List.filterMap_cons, hx] using hn
        | some e =>
          have : (e :: dstsOf r).Nodup := by simpa [dstsOf, List.filterMap_cons, hx] using hn
          exact (List.nodup_cons.1 this).2
      have hi' : r[i]? = some o := by simpa using hi
      have := ih (k + 1) i (match x.dst with | some d => t.setIfInBounds d (u k) | none => t) o d hnr hi' hd
      simp only [fillL]
      rw [this]
      have e1 : k + 1 + i = k + (i + 1) := by omega
      rw [e1]
      have e2 : (if k = k + (i + 1) then v else u k) = u k := by rw [if_neg (by omega)]
      rw [e2]

theorem fillL_self (t : Array Value) : ∀ (l : List Oper) (k : Nat) (u : Nat → Value), (∀ i o d, l[i]? = some o → o.dst = some d → d < t.size → u (k + i) = t.getD d undef) → fillL u l k t = t := by
  intro l
  induction l with
  | nil => intro k u _; rfl
  | cons x r ih =>
    intro k u h
    simp only [fillL]
    have hx : (match x.dst with | some d => t.setIfInBounds d (u k) | none => t) = t := by
      cases hd : x.dst with
      | none => rfl
      | some d =>
        simp only
        by_cases hlt : d < t.size
        · have := h 0 x d (by simp) hd hlt
          simp only [Nat.add_zero] at this
          rw [this]
          apply Array.ext
          · simp
          · intro i h1 h2
            rw [Array.getElem_setIfInBounds (by simpa using h2)]
            split
            · subst_vars; simp
            · rfl
        · simp [Array.setIfInBounds, hlt]
    rw [hx]
    exact ih (k + 1) u (fun i o d hi hd hlt => by
      have := h (i + 1) o d (by simpa using hi) hd hlt
      rw [show k + 1 + i = k + (i + 1) by omega]; exact this)

/-- An operation that is no defer statement, walked as everywhere, is walked within a round, too. -/
theorem wpIn_of_wp {P : Program} {o : Oper} {a : Act} {w : World} {K : Act → World → Prop} {Q : Exit → Act → World → Prop} {ro : Option Nat} {n : Nat} (hd : ∀ c, o.op ≠ .defer c)
    (h : o.wp P a w K Q) : o.wpIn { Fence.wide with round := ro } n P a w K Q := by
  refine ⟨fun _ _ => trivial, ?_⟩
  rw [Oper.semAt_eq ro a.eval o hd]
  unfold Oper.wp at h
  generalize (execOp a.eval o).run P w = r at *
  cases r with
  | ok x w' =>
    cases x <;> simp only [Oper.upon, Oper.uponIn] at h ⊢ <;> first | exact h | skip
    · exact ⟨fun h => by simp [Fence.wide] at h, (callsIn_wide (n := n - 1)).2 h⟩
    · exact ⟨fun h => by simp [Fence.wide] at h, fun c cs _ => let ⟨v, w2, r, s⟩ := h c cs; ⟨v, w2, r, stepsIn_wide.2 s⟩⟩
  | halt x w' => cases x <;> simp only [Oper.upon, Oper.uponIn] at h ⊢ <;> exact h



theorem anc_closed {l : List Oper} {done : Nat → Bool} (hc : ∀ j o, l[j]? = some o → done j = true → ∀ k ∈ fore o, done k = true) : ∀ (n : Nat) (s : List Nat), (∀ j ∈ s, done j = true) → ∀ j ∈ anc l n s, done j = true := by
  intro n
  induction n with
  | zero => intro s hs j hj; exact hs j hj
  | succ n ih =>
    intro s hs j hj
    simp only [anc] at hj
    refine ih _ (fun k hk => ?_) j hj
    simp only [List.mem_eraseDups, List.mem_append, List.mem_flatMap] at hk
    rcases hk with hk | ⟨m, hm, hk⟩
    · exact hs k hk
    · cases ho : l[m]? with
      | none => rw [ho] at hk; simp at hk
      | some o => rw [ho] at hk; exact hc m o ho (hs m hm) k hk

theorem fillL_none (u : Nat → Value) (v : Value) : ∀ (l : List Oper) (k i : Nat) (t : Array Value) (o : Oper), l[i]? = some o → o.dst = none →
    fillL u l k t = fillL (fun j => if j = k + i then v else u j) l k t := by
  intro l
  induction l with
  | nil => intro k i t o h; simp at h
  | cons x r ih =>
    intro k i t o hi hd
    cases i with
    | zero =>
      simp at hi
      subst hi
      simp only [fillL, hd, Nat.add_zero]
      exact fillL_congr r (k + 1) _ (fun j h1 _ => by rw [if_neg (by omega)])
    | succ i =>
      have hi' : r[i]? = some o := by simpa using hi
      simp only [fillL]
      have e2 : (if k = k + (i + 1) then v else u k) = u k := by rw [if_neg (by omega)]
      rw [e2, ih (k + 1) i _ o hi' hd]
      have e1 : k + 1 + i = k + (i + 1) := by omega
      rw [e1]

theorem countP_lt {p q : Nat → Bool} (hpq : ∀ j, q j = true → p j = true) {i : Nat} (hp : p i = true) (hq : q i = false) : ∀ {l : List Nat}, i ∈ l → l.countP q < l.countP p := by
  intro l
  induction l with
  | nil => intro h; simp at h
  | cons x r ih =>
    intro h
    have hle : r.countP q ≤ r.countP p := List.countP_mono_left (fun j _ => hpq j)
    rcases List.mem_cons.1 h with e | e
    · subst e
      simp only [List.countP_cons, hp, hq]
      simp; omega
    · have := ih e
      simp only [List.countP_cons]
      cases hx : q x with
      | true => simp [hpq x hx]; omega
      | false => simp; split <;> omega
theorem countP_upd (N : Nat) (done : Nat → Bool) (i : Nat) (hi : i < N) (hd : done i = false) : (List.range N).countP (fun j => !upd done i j) < (List.range N).countP (fun j => !done j) := by
  refine countP_lt (i := i) (fun j hj => ?_) (by simp [hd]) (by simp [upd]) (List.mem_range.2 hi)
  unfold upd at hj
  by_cases e : j = i
  · subst e; simp at hj
  · simpa [e] using hj

theorem hlt_anc (l : List Oper) (hfore : ∀ i o, l[i]? = some o → ∀ k ∈ fore o, k < i) (i : Nat) (o : Oper) (ho : l[i]? = some o) : ∀ j ∈ anc l l.length (fore o), j < i := by
  have h : ∀ (n : Nat) (s : List Nat), (∀ j ∈ s, j < i) → ∀ j ∈ anc l n s, j < i := by
    intro n
    induction n with
    | zero => intro s hs j hj; exact hs j hj
    | succ n ih =>
      intro s hs j hj
      simp only [anc] at hj
      refine ih _ (fun k hk => ?_) j hj
      simp only [List.mem_eraseDups, List.mem_append, List.mem_flatMap] at hk
      rcases hk with hk | ⟨m, hm, hk⟩
      · exact hs k hk
      · have hmi := hs m hm
        cases hx : l[m]? with
        | none => rw [hx] at hk; simp at hk
        | some x => rw [hx] at hk; have := hfore m x hx k hk; omega
  exact h _ _ (hfore i o ho)


/-- **A REGION THAT DRAWS ITS ORDER, IN GENERAL.** R done u W: what holds when the operations done have run and yielded u. -/
theorem region_inv {F : Fence} {n : Nat} {P : Program} {id : Nat} {l : List Oper} {Q : Exit → Act → World → Prop} {a : Act} {w : World} (hm : P.follows .mixedOrders = true)
    (hdag : (l.zipIdx.all fun (o, i) => (fore o).all (· < i)) = true) (hnd : (dstsOf l).Nodup) (hwide : ∀ f, F.fn f)
    (R : (Nat → Bool) → (Nat → Value) → World → Prop) (h0 : ∀ u, R (fun _ => false) u w.drew)
    (hstep : AllIdx (fun i o => ∀ (u : Nat → Value) (done : Nat → Bool) (W : World), done i = false → (∀ j ∈ anc l l.length (fore o), done j = true) → (∀ j oj, l[j]? = some oj → done j = true → ∀ k ∈ anc l l.length (fore oj), done k = true) → R done u W →
      if Region.wanted o (yielded l.toArray (fillL u l 0 a.tmps)) then o.wpIn F n P { a with tmps := fillL u l 0 a.tmps } W (fun a' W' => ∃ v, a' = ({ a with tmps := fillL u l 0 a.tmps } : Act).put o.dst v ∧ R (upd done i) (fun j => if j = i then v else u j) W') Q
      else R (upd done i) (fun j => if j = i then undef else u j) W) l 0)
    (hfin : ∀ (u : Nat → Value) (W : World), (∃ done, (∀ i, i < l.length → done i = true) ∧ R done u W) → Q .normal { a with tmps := fillL u l 0 a.tmps } W) :
    (Code.region id l.toArray true).wpIn F n P Q a w := by
  refine wpIn_region_any hm ?_
  have hfore : ∀ i o, l[i]? = some o → ∀ k ∈ fore o, k < i := by
    intro i o hi k hk
    rw [List.all_eq_true] at hdag
    have hmem : (o, i) ∈ l.zipIdx := by
      rw [List.mem_zipIdx_iff_getElem?]; exact hi
    have := hdag (o, i) hmem
    simp only [List.all_eq_true, decide_eq_true_eq] at this
    exact this k hk
  have hready : ∀ (listed : Array Bool) (done : Nat → Bool), listed.size = l.length → (∀ i, i < l.length → listed.getD i true = done i) → ∀ i o, l[i]? = some o →
      (i ∈ Region.ready .any l.toArray listed ↔ done i = false ∧ ∀ k ∈ fore o, done k = true) := by
    intro listed done hsz hl i o hi
    have hlt : i < l.length := (List.getElem?_eq_some_iff.1 hi).1
    have hget : ∀ k, k < l.length → listed.getD k false = done k := by
      intro k hk
      rw [← hl k hk]
      simp [Array.getD_eq_getD_getElem?, hsz, hk]
    simp only [Region.ready, List.mem_filter, List.mem_range, List.size_toArray, hlt, true_and, Bool.and_eq_true, Bool.not_eq_true', hl i hlt, List.getElem?_toArray, hi, Option.map_some, Option.getD_some]
    refine and_congr_right fun _ => ?_
    rw [Array.all_eq_true']
    constructor
    · intro h k hk
      have hki := hfore i o hi k hk
      simp only [fore, List.mem_map, List.mem_filter] at hk
      obtain ⟨e, ⟨he, hb⟩, rfl⟩ := hk
      have := h e (by simpa using he)
      simp only [hb, Bool.not_true, Bool.false_or] at this
      rw [← hget e.on (by omega)]
      exact this
    · intro h e he
      cases hb : Region.binds .any e with
      | false => simp
      | true =>
        have hk : e.on ∈ fore o := by simp only [fore, List.mem_map, List.mem_filter]; exact ⟨e, ⟨by simpa using he, hb⟩, rfl⟩
        have hd := h e.on hk
        have hek := hfore i o hi e.on hk
        rw [← hget e.on (by omega)] at hd
        simp only [Bool.not_true, Bool.false_or]
        exact hd
  have hmem : ∀ (listed : Array Bool) i, i ∈ Region.ready .any l.toArray listed → i < l.length := by
    intro listed i hi
    simp only [Region.ready, List.mem_filter, List.mem_range, List.size_toArray] at hi
    exact hi.1
  have hall : ∀ (listed : Array Bool) (done : Nat → Bool), listed.size = l.length → (∀ i, i < l.length → listed.getD i true = done i) → Region.ready .any l.toArray listed = [] → ∀ i, i < l.length → done i = true := by
    intro listed done hsz hl hr i
    induction i using Nat.strongRecOn with
    | _ i ih =>
      intro hi
      cases hd : done i with
      | true => rfl
      | false =>
        have ho : l[i]? = some l[i] := List.getElem?_eq_getElem hi
        have := (hready listed done hsz hl i _ ho).2 ⟨hd, fun k hk => by
          have hki := hfore i _ ho k hk
          exact ih k hki (by omega)⟩
        rw [hr] at this
        simp at this
  have main : ∀ (fuel : Nat) (listed : Array Bool) (u : Nat → Value) (done : Nat → Bool) (W : World), listed.size = l.length → (∀ i, i < l.length → listed.getD i true = done i) →
      (List.range l.length).countP (fun j => !done j) ≤ fuel → (∀ j o, l[j]? = some o → done j = true → ∀ k ∈ fore o, done k = true) → R done u W →
      wpAnyIn F n P .any l.toArray Q fuel listed { a with tmps := fillL u l 0 a.tmps } W := by
    intro fuel
    induction fuel with
    | zero =>
      intro listed u done W hsz hl hc hcl hR
      have hd : ∀ i, i < l.length → done i = true := by
        intro i hi
        have h0 : (List.range l.length).countP (fun j => !done j) = 0 := by omega
        rw [List.countP_eq_zero] at h0
        have := h0 i (List.mem_range.2 hi)
        simpa using this
      refine ⟨?_, hfin u W ⟨done, hd, hR⟩⟩
      rw [List.eq_nil_iff_forall_not_mem]
      intro i hi
      have hlt := hmem listed i hi
      have ho : l[i]? = some l[i] := List.getElem?_eq_getElem hlt
      have := ((hready listed done hsz hl i _ ho).1 hi).1
      rw [hd i hlt] at this
      cases this
    | succ fuel ih =>
      intro listed u done W hsz hl hc hcl hR
      refine ⟨fun hr => ?_, fun i hi => ?_⟩
      · have hd := hall listed done hsz hl hr
        exact hfin u W ⟨done, hd, hR⟩
      · have hlt := hmem listed i hi
        have ho : l[i]? = some l[i] := List.getElem?_eq_getElem hlt
        generalize hoo : l[i] = o at ho
        obtain ⟨hdi, hfo⟩ := (hready listed done hsz hl i o ho).1 hi
        have hanc : ∀ j ∈ anc l l.length (fore o), done j = true := anc_closed hcl _ _ hfo
        have hs := AllIdx.at hstep i o ho
        simp only [Nat.zero_add] at hs
        have hs := hs u done W hdi hanc (fun j oj hj hdj => anc_closed hcl _ _ (hcl j oj hj hdj)) hR
        have hnext : ∀ (v : Value) (W' : World), R (upd done i) (fun j => if j = i then v else u j) W' → wpAnyIn F n P .any l.toArray Q fuel (listed.setIfInBounds i true) (({ a with tmps := fillL u l 0 a.tmps } : Act).put o.dst v) W' := by
          intro v W' hR'
          have hput : (({ a with tmps := fillL u l 0 a.tmps } : Act).put o.dst v) = { a with tmps := fillL (fun j => if j = i then v else u j) l 0 a.tmps } := by
            cases hd : o.dst with
            | none =>
              simp only [Act.put]
              rw [fillL_none u v l 0 i a.tmps o ho hd, Nat.zero_add]
            | some d =>
              simp only [Act.put]
              rw [fillL_put u v l 0 i a.tmps o d hnd ho hd, Nat.zero_add]
          rw [hput]
          refine ih (listed.setIfInBounds i true) _ (upd done i) W' (by simp [hsz]) (fun j hj => ?_) ?_ ?_ hR'
          · unfold upd
            by_cases e : j = i
            · subst e; simp [Array.getD_eq_getD_getElem?, hsz, hj]
            · rw [if_neg e, ← hl j hj]
              simp [Array.getD_eq_getD_getElem?, Array.getElem?_setIfInBounds_ne (Ne.symm e)]
          · have := countP_upd l.length done i hlt hdi
            omega
          · intro j oj hj hdj k hk
            unfold upd at hdj ⊢
            by_cases e : j = i
            · subst e
              rw [ho] at hj
              cases hj
              have := hfo k hk
              simp [this]
            · rw [if_neg e] at hdj
              have := hcl j oj hj hdj k hk
              simp [this]
        unfold wpOpIn
        simp only [List.getElem?_toArray, ho]
        by_cases hw : Region.wanted o (yielded l.toArray (fillL u l 0 a.tmps)) = true
        · rw [if_pos hw] at hs ⊢
          exact Oper.wpIn_mono (fun a' W' ⟨v, ha, hR'⟩ => by subst ha; exact hnext v W' hR') hs
        · rw [if_neg hw] at hs ⊢
          exact ⟨fun f _ => hwide f, hnext undef W hs⟩
  obtain ⟨u0, hself⟩ : ∃ u0 : Nat → Value, fillL u0 l 0 a.tmps = a.tmps :=
    ⟨fun i => match l[i]? with | some o => (match o.dst with | some d => a.tmps.getD d undef | none => undef) | none => undef, by
      apply fillL_self
      intro i o d hi hd _
      simp only [Nat.zero_add, hi, hd]⟩
  have hmain := main l.length (Array.replicate l.length false) u0 (fun _ => false) w.drew (by simp) (fun i hi => by simp [hi]) (by simp) (fun _ _ _ h => by cases h) (h0 _)
  rw [hself] at hmain
  rw [List.size_toArray]
  exact hmain

/-- if operation j has run, its value is as p says -/
def Vl (done : Nat → Bool) (u : Nat → Value) (j : Nat) (p : Value → Prop) : Prop := done j = true → p (u j)
theorem Vl.keep {done : Nat → Bool} {u : Nat → Value} {j i : Nat} {p : Value → Prop} {x : Value} (h : Vl done u j p) (hne : j ≠ i) : Vl (upd done i) (fun k => if k = i then x else u k) j p := by
  intro hd
  simp only [upd, if_neg hne] at hd ⊢
  exact h hd
theorem Vl.new {done : Nat → Bool} {u : Nat → Value} {i : Nat} {p : Value → Prop} {x : Value} (h : p x) : Vl (upd done i) (fun k => if k = i then x else u k) i p := by
  intro _
  simpa using h
theorem Vl.start {u : Nat → Value} {j : Nat} {p : Value → Prop} : Vl (fun _ => false) u j p := fun h => by cases h
theorem upd_ne {done : Nat → Bool} {i j : Nat} (h : j ≠ i) : upd done i j = done j := by simp [upd, h]
theorem upd_self {done : Nat → Bool} {i : Nat} : upd done i i = true := by simp [upd]

theorem op_k {P : Program} {o : Oper} {a : Act} {W : World} {Q : Exit → Act → World → Prop} {RR : Value → World → Prop}
    (h : ∀ K : Act → World → Prop, (∀ v W', RR v W' → K (a.put o.dst v) W') → o.wp P a W K Q) : o.wp P a W (fun a' W' => ∃ v, a' = a.put o.dst v ∧ RR v W') Q :=
  h _ (fun v W' h => ⟨v, rfl, h⟩)
/-- An operation without a guard, in a region that draws. -/
theorem op_plain {P : Program} {o : Oper} {a : Act} {W : World} {Q : Exit → Act → World → Prop} {RR : Value → World → Prop} {y : Nat → Option Bool} {ro : Option Nat} {n : Nat} {E : Prop} (hg : o.guard = none) (hd : ∀ c, o.op ≠ .defer c)
    (h : ∀ K : Act → World → Prop, (∀ v W', RR v W' → K (a.put o.dst v) W') → o.wp P a W K Q) :
    if Region.wanted o y then o.wpIn { Fence.wide with round := ro } n P a W (fun a' W' => ∃ v, a' = a.put o.dst v ∧ RR v W') Q else E := by
  rw [if_pos (by simp [Region.wanted, hg])]
  exact wpIn_of_wp hd (op_k h)
theorem fillL_get (u : Nat → Value) : ∀ (l : List Oper) (k j : Nat) (t : Array Value) (o : Oper) (d : Nat), (dstsOf l).Nodup → l[j]? = some o → o.dst = some d → d < t.size → (fillL u l k t)[d]? = some (u (k + j)) := by
  intro l
  induction l with
  | nil => intro k j t o d _ h; simp at h
  | cons x r ih =>
    intro k j t o d hn hj hd hlt
    cases j with
    | zero =>
      simp at hj
      subst hj
      have hnr : d ∉ dstsOf r := by
        have : (d :: dstsOf r).Nodup := by simpa [dstsOf, List.filterMap_cons, hd] using hn
        exact (List.nodup_cons.1 this).1
      simp only [fillL, hd, Nat.add_zero]
      have h1 : t.setIfInBounds d (u k) = (t.setIfInBounds d (u k)).setIfInBounds d (u k) := by rw [Array.setIfInBounds_setIfInBounds]
      rw [h1, ← fillL_set_comm u r (k + 1) _ d (u k) hnr]
      rw [Array.getElem?_setIfInBounds]
      simp [fillL_size, hlt]
    | succ j =>
      have hnr : (dstsOf r).Nodup := by
        cases hx : x.dst with
        | none => simpa [dstsOf, List.filterMap_cons, hx] using hn
        | some e =>
          have : (e :: dstsOf r).Nodup := by simpa [dstsOf, List.filterMap_cons, hx] using hn
          exact (List.nodup_cons.1 this).2
      simp only [fillL]
      rw [ih (k + 1) j _ o d hnr (by simpa using hj) hd (by split <;> simp [hlt])]
      rw [show k + 1 + j = k + (j + 1) by omega]

theorem yielded_fill {l : List Oper} {u : Nat → Value} {t : Array Value} {j : Nat} {b : Bool} (hnd : (dstsOf l).Nodup) (hlt : (match (l[j]?).bind (·.dst) with | some d => decide (d < t.size) | none => false) = true) (hu : u j = .bool b) :
    yielded l.toArray (fillL u l 0 t) j = some b := by
  cases ho : l[j]? with
  | none => rw [ho] at hlt; simp at hlt
  | some o =>
    rw [ho] at hlt
    cases hd : o.dst with
    | none => simp [hd] at hlt
    | some d =>
      simp [hd] at hlt
      have := fillL_get u l 0 j t o d hnd ho hd hlt
      simp [yielded, ho, hd, this, hu]

/-- An operation whose guard is not met, in a region that draws. -/
theorem op_skip {l : List Oper} {u : Nat → Value} {t : Array Value} {o : Oper} {E E' : Prop} (j : Nat) (b : Bool) {b' : Bool} (hu : u j = .bool b') (hne : (b' == b) = false) (hnd : (dstsOf l).Nodup)
    (hlt : (match (l[j]?).bind (·.dst) with | some d => decide (d < t.size) | none => false) = true) (hg : o.guard = some (j, b)) (h : E) : if Region.wanted o (yielded l.toArray (fillL u l 0 t)) then E' else E := by
  rw [if_neg (by simp [Region.wanted, hg, yielded_fill hnd hlt hu]; simpa using hne)]
  exact h
/-- An operation whose guard is met: its walk in a fence. -/
theorem op_meetIn {l : List Oper} {u : Nat → Value} {t : Array Value} {o : Oper} {E E' : Prop} (j : Nat) (b : Bool) (hu : u j = .bool b) (hnd : (dstsOf l).Nodup)
    (hlt : (match (l[j]?).bind (·.dst) with | some d => decide (d < t.size) | none => false) = true) (hg : o.guard = some (j, b)) (h : E') :
    if Region.wanted o (yielded l.toArray (fillL u l 0 t)) then E' else E := by
  rw [if_pos (by simp [Region.wanted, hg, yielded_fill hnd hlt hu])]
  exact h
/-- An operation's walk in a fence without bounds, out of its plain walk. -/
theorem op_in {P : Program} {o : Oper} {a : Act} {W : World} {Q : Exit → Act → World → Prop} {RR : Value → World → Prop} {ro : Option Nat} {n : Nat} (hd : ∀ c, o.op ≠ .defer c)
    (h : ∀ K : Act → World → Prop, (∀ v W', RR v W' → K (a.put o.dst v) W') → o.wp P a W K Q) :
    o.wpIn { Fence.wide with round := ro } n P a W (fun a' W' => ∃ v, a' = a.put o.dst v ∧ RR v W') Q := wpIn_of_wp hd (op_k h)
theorem mem_of {L : List Nat} {j : Nat} (h : L.contains j = true) : j ∈ L := by simpa using h
end
section
set_option linter.unusedVariables false
open Go.RowKit

theorem region_inv2 {F : Fence} {n : Nat} {P : Program} {id : Nat} {l : List Oper} {Q : Exit → Act → World → Prop} {a : Act} {w : World} (hm : P.follows .mixedOrders = true)
    (hdag : (l.zipIdx.all fun (o, i) => (fore o).all (· < i)) = true) (hnd : (dstsOf l).Nodup) (hwide : ∀ f, F.fn f)
    (R : (Nat → Bool) → (Nat → Value) → World → Prop) (h0 : ∀ u, fillL u l 0 a.tmps = a.tmps → R (fun _ => false) u w.drew)
    (hstep : AllIdx (fun i o => ∀ (u : Nat → Value) (done : Nat → Bool) (W : World), done i = false → (∀ j ∈ anc l l.length (fore o), done j = true) → (∀ j oj, l[j]? = some oj → done j = true → ∀ k ∈ anc l l.length (fore oj), done k = true) → R done u W →
      if Region.wanted o (yielded l.toArray (fillL u l 0 a.tmps)) then o.wpIn F n P { a with tmps := fillL u l 0 a.tmps } W (fun a' W' => ∃ v, a' = ({ a with tmps := fillL u l 0 a.tmps } : Act).put o.dst v ∧ R (upd done i) (fun j => if j = i then v else u j) W') Q
      else R (upd done i) (fun j => if j = i then undef else u j) W) l 0)
    (hfin : ∀ (u : Nat → Value) (W : World), (∃ done, (∀ i, i < l.length → done i = true) ∧ R done u W) → Q .normal { a with tmps := fillL u l 0 a.tmps } W) :
    (Code.region id l.toArray true).wpIn F n P Q a w := by
  refine wpIn_region_any hm ?_
  have hfore : ∀ i o, l[i]? = some o → ∀ k ∈ fore o, k < i := by
    intro i o hi k hk
    rw [List.all_eq_true] at hdag
    have hmem : (o, i) ∈ l.zipIdx := by
      rw [List.mem_zipIdx_iff_getElem?]; exact hi
    have := hdag (o, i) hmem
    simp only [List.all_eq_true, decide_eq_true_eq] at this
    exact this k hk
  have hready : ∀ (listed : Array Bool) (done : Nat → Bool), listed.size = l.length → (∀ i, i < l.length → listed.getD i true = done i) → ∀ i o, l[i]? = some o →
      (i ∈ Region.ready .any l.toArray listed ↔ done i = false ∧ ∀ k ∈ fore o, done k = true) := by
    intro listed done hsz hl i o hi
    have hlt : i < l.length := (List.getElem?_eq_some_iff.1 hi).1
    have hget : ∀ k, k < l.length → listed.getD k false = done k := by
      intro k hk
      rw [← hl k hk]
      simp [Array.getD_eq_getD_getElem?, hsz, hk]
    simp only [Region.ready, List.mem_filter, List.mem_range, List.size_toArray, hlt, true_and, Bool.and_eq_true, Bool.not_eq_true', hl i hlt, List.getElem?_toArray, hi, Option.map_some, Option.getD_some]
    refine and_congr_right fun _ => ?_
    rw [Array.all_eq_true']
    constructor
    · intro h k hk
      have hki := hfore i o hi k hk
      simp only [fore, List.mem_map, List.mem_filter] at hk
      obtain ⟨e, ⟨he, hb⟩, rfl⟩ := hk
      have := h e (by simpa using he)
      simp only [hb, Bool.not_true, Bool.false_or] at this
      rw [← hget e.on (by omega)]
      exact this
    · intro h e he
      cases hb : Region.binds .any e with
      | false => simp
      | true =>
        have hk : e.on ∈ fore o := by simp only [fore, List.mem_map, List.mem_filter]; exact ⟨e, ⟨by simpa using he, hb⟩, rfl⟩
        have hd := h e.on hk
        have hek := hfore i o hi e.on hk
        rw [← hget e.on (by omega)] at hd
        simp only [Bool.not_true, Bool.false_or]
        exact hd
  have hmem : ∀ (listed : Array Bool) i, i ∈ Region.ready .any l.toArray listed → i < l.length := by
    intro listed i hi
    simp only [Region.ready, List.mem_filter, List.mem_range, List.size_toArray] at hi
    exact hi.1
  have hall : ∀ (listed : Array Bool) (done : Nat → Bool), listed.size = l.length → (∀ i, i < l.length → listed.getD i true = done i) → Region.ready .any l.toArray listed = [] → ∀ i, i < l.length → done i = true := by
    intro listed done hsz hl hr i
    induction i using Nat.strongRecOn with
    | _ i ih =>
      intro hi
      cases hd : done i with
      | true => rfl
      | false =>
        have ho : l[i]? = some l[i] := List.getElem?_eq_getElem hi
        have := (hready listed done hsz hl i _ ho).2 ⟨hd, fun k hk => by
          have hki := hfore i _ ho k hk
          exact ih k hki (by omega)⟩
        rw [hr] at this
        simp at this
  have main : ∀ (fuel : Nat) (listed : Array Bool) (u : Nat → Value) (done : Nat → Bool) (W : World), listed.size = l.length → (∀ i, i < l.length → listed.getD i true = done i) →
      (List.range l.length).countP (fun j => !done j) ≤ fuel → (∀ j o, l[j]? = some o → done j = true → ∀ k ∈ fore o, done k = true) → R done u W →
      wpAnyIn F n P .any l.toArray Q fuel listed { a with tmps := fillL u l 0 a.tmps } W := by
    intro fuel
    induction fuel with
    | zero =>
      intro listed u done W hsz hl hc hcl hR
      have hd : ∀ i, i < l.length → done i = true := by
        intro i hi
        have h0 : (List.range l.length).countP (fun j => !done j) = 0 := by omega
        rw [List.countP_eq_zero] at h0
        have := h0 i (List.mem_range.2 hi)
        simpa using this
      refine ⟨?_, hfin u W ⟨done, hd, hR⟩⟩
      rw [List.eq_nil_iff_forall_not_mem]
      intro i hi
      have hlt := hmem listed i hi
      have ho : l[i]? = some l[i] := List.getElem?_eq_getElem hlt
      have := ((hready listed done hsz hl i _ ho).1 hi).1
      rw [hd i hlt] at this
      cases this
    | succ fuel ih =>
      intro listed u done W hsz hl hc hcl hR
      refine ⟨fun hr => ?_, fun i hi => ?_⟩
      · have hd := hall listed done hsz hl hr
        exact hfin u W ⟨done, hd, hR⟩
      · have hlt := hmem listed i hi
        have ho : l[i]? = some l[i] := List.getElem?_eq_getElem hlt
        generalize hoo : l[i] = o at ho
        obtain ⟨hdi, hfo⟩ := (hready listed done hsz hl i o ho).1 hi
        have hanc : ∀ j ∈ anc l l.length (fore o), done j = true := anc_closed hcl _ _ hfo
        have hs := AllIdx.at hstep i o ho
        simp only [Nat.zero_add] at hs
        have hs := hs u done W hdi hanc (fun j oj hj hdj => anc_closed hcl _ _ (hcl j oj hj hdj)) hR
        have hnext : ∀ (v : Value) (W' : World), R (upd done i) (fun j => if j = i then v else u j) W' → wpAnyIn F n P .any l.toArray Q fuel (listed.setIfInBounds i true) (({ a with tmps := fillL u l 0 a.tmps } : Act).put o.dst v) W' := by
          intro v W' hR'
          have hput : (({ a with tmps := fillL u l 0 a.tmps } : Act).put o.dst v) = { a with tmps := fillL (fun j => if j = i then v else u j) l 0 a.tmps } := by
            cases hd : o.dst with
            | none =>
              simp only [Act.put]
              rw [fillL_none u v l 0 i a.tmps o ho hd, Nat.zero_add]
            | some d =>
              simp only [Act.put]
              rw [fillL_put u v l 0 i a.tmps o d hnd ho hd, Nat.zero_add]
          rw [hput]
          refine ih (listed.setIfInBounds i true) _ (upd done i) W' (by simp [hsz]) (fun j hj => ?_) ?_ ?_ hR'
          · unfold upd
            by_cases e : j = i
            · subst e; simp [Array.getD_eq_getD_getElem?, hsz, hj]
            · rw [if_neg e, ← hl j hj]
              simp [Array.getD_eq_getD_getElem?, Array.getElem?_setIfInBounds_ne (Ne.symm e)]
          · have := countP_upd l.length done i hlt hdi
            omega
          · intro j oj hj hdj k hk
            unfold upd at hdj ⊢
            by_cases e : j = i
            · subst e
              rw [ho] at hj
              cases hj
              have := hfo k hk
              simp [this]
            · rw [if_neg e] at hdj
              have := hcl j oj hj hdj k hk
              simp [this]
        unfold wpOpIn
        simp only [List.getElem?_toArray, ho]
        by_cases hw : Region.wanted o (yielded l.toArray (fillL u l 0 a.tmps)) = true
        · rw [if_pos hw] at hs ⊢
          exact Oper.wpIn_mono (fun a' W' ⟨v, ha, hR'⟩ => by subst ha; exact hnext v W' hR') hs
        · rw [if_neg hw] at hs ⊢
          exact ⟨fun f _ => hwide f, hnext undef W hs⟩
  obtain ⟨u0, hself⟩ : ∃ u0 : Nat → Value, fillL u0 l 0 a.tmps = a.tmps :=
    ⟨fun i => match l[i]? with | some o => (match o.dst with | some d => a.tmps.getD d undef | none => undef) | none => undef, by
      apply fillL_self
      intro i o d hi hd _
      simp only [Nat.zero_add, hi, hd]⟩
  have hmain := main l.length (Array.replicate l.length false) u0 (fun _ => false) w.drew (by simp) (fun i hi => by simp [hi]) (by simp) (fun _ _ _ h => by cases h) (h0 _ hself)
  rw [hself] at hmain
  rw [List.size_toArray]
  exact hmain

/-- what a slot held before -/
theorem fillL_was {l : List Oper} {u : Nat → Value} {t : Array Value} (h : fillL u l 0 t = t) (hnd : (dstsOf l).Nodup) (j : Nat) {o : Oper} {d : Nat} {v : Value} (ho : l[j]? = some o) (hd : o.dst = some d) (hv : t[d]? = some v) : u j = v := by
  have hlt : d < t.size := (Array.getElem?_eq_some_iff.1 hv).1
  have := fillL_get u l 0 j t o d hnd ho hd hlt
  rw [h, hv, Nat.zero_add] at this
  injection this with this
  exact this.symm
end
section
set_option linter.unusedVariables false
open Go.RowKit

/-- what is known of a frame: its size, and some slots -/
structure Fr (a : Act) (n : Nat) (L : List (Nat × Value)) (D : List Deferred := []) : Prop where
  sz : a.tmps.size = n
  df : a.defers = D
  get : ∀ s v, (s, v) ∈ L → a.tmps[s]? = some v

def lookS (L : List (Nat × Value)) (s : Nat) : Option Value :=
  match L with
  | [] => none
  | (t, v) :: r => if t = s then some v else lookS r s
theorem lookS_mem {L : List (Nat × Value)} {s : Nat} {v : Value} (h : lookS L s = some v) : (s, v) ∈ L := by
  induction L with
  | nil => simp [lookS] at h
  | cons p r ih =>
    obtain ⟨t, x⟩ := p
    simp only [lookS] at h
    split at h
    · subst_vars; simp at h; subst h; simp
    · exact List.mem_cons_of_mem _ (ih h)
theorem Fr.look {a : Act} {n : Nat} {L : List (Nat × Value)} {D : List Deferred} (h : Fr a n L D) {s : Nat} {v : Value} (hl : lookS L s = some v) : a.tmps[s]? = some v := h.get s v (lookS_mem hl)
theorem eval_of {a : Act} {s : Nat} {v : Value} (h : a.tmps[s]? = some v) : a.eval (.tmp s) = v := by
  show a.tmps.getD s undef = v
  simp [h]
theorem Fr.ev {a : Act} {n : Nat} {L : List (Nat × Value)} {D : List Deferred} (h : Fr a n L D) (s : Nat) (v : Value) (hl : lookS L s = some v := by kernel_rfl) : a.eval (.tmp s) = v := eval_of (h.look hl)
/-- which operation writes a slot -/
def writer (s : Nat) : List Oper → Nat → Option Nat
  | [], _ => none
  | o :: r, k => if o.dst = some s then some k else writer s r (k + 1)
theorem writer_some {s : Nat} : ∀ {l : List Oper} {k j : Nat}, writer s l k = some j → k ≤ j ∧ ∃ o, l[j - k]? = some o ∧ o.dst = some s := by
  intro l
  induction l with
  | nil => intro k j h; simp [writer] at h
  | cons o r ih =>
    intro k j h
    simp only [writer] at h
    split at h
    · simp at h; subst h; exact ⟨Nat.le_refl _, o, by simp, by assumption⟩
    · obtain ⟨h1, o', h2, h3⟩ := ih h
      refine ⟨by omega, o', ?_, h3⟩
      rw [show j - k = (j - (k + 1)) + 1 by omega]; simpa using h2
theorem writer_none {s : Nat} : ∀ {l : List Oper} {k : Nat}, writer s l k = none → s ∉ dstsOf l := by
  intro l
  induction l with
  | nil => intro k _; simp [dstsOf]
  | cons o r ih =>
    intro k h
    simp only [writer] at h
    split at h
    · cases h
    · rename_i hne
      have := ih h
      cases ho : o.dst with
      | none => simpa [dstsOf, List.filterMap_cons, ho] using this
      | some d =>
        have hd : d ≠ s := fun e => hne (by rw [ho, e])
        simp only [dstsOf, List.filterMap_cons, ho, List.mem_cons, not_or]
        exact ⟨Ne.symm hd, this⟩
theorem fillL_other (u : Nat → Value) : ∀ (l : List Oper) (k : Nat) (t : Array Value) (s : Nat), s ∉ dstsOf l → (fillL u l k t)[s]? = t[s]? := by
  intro l
  induction l with
  | nil => intro k t s _; rfl
  | cons o r ih =>
    intro k t s hs
    simp only [fillL]
    cases ho : o.dst with
    | none =>
      have hs' : s ∉ dstsOf r := by simpa [dstsOf, List.filterMap_cons, ho] using hs
      exact ih (k + 1) t s hs'
    | some d =>
      have hs' : s ≠ d ∧ s ∉ dstsOf r := by simpa [dstsOf, List.filterMap_cons, ho] using hs
      rw [ih (k + 1) _ s hs'.2, Array.getElem?_setIfInBounds_ne (Ne.symm hs'.1)]

def ancAt (l : List Oper) (i : Nat) : List Nat := match l[i]? with | some o => anc l l.length (fore o) | none => []
/-- what a slot holds when operation i comes up -/
def slotAt (l : List Oper) (vs : List (Option Value)) (L : List (Nat × Value)) (i s : Nat) : Option Value :=
  match writer s l 0 with
  | some j => if (ancAt l i).contains j then (vs[j]?).join else if j = i ∨ (ancAt l j).contains i then lookS L s else none
  | none => lookS L s
/-- what a slot holds behind the region -/
def lastAt (l : List Oper) (vs : List (Option Value)) (L : List (Nat × Value)) (s : Nat) : Option Value :=
  match writer s l 0 with
  | some j => (vs[j]?).join
  | none => lookS L s

/-- the values of the operations: those that have run, and what the slots of the others hold -/
def Kv (l : List Oper) (vs : List (Option Value)) (t : Array Value) (done : Nat → Bool) (u : Nat → Value) : Prop :=
  ∀ j, (done j = true → ∀ x, vs[j]? = some (some x) → u j = x) ∧ (done j = false → ∀ o d v, l[j]? = some o → o.dst = some d → t[d]? = some v → u j = v)

/-- the state in which operation i comes up -/
structure Ste (l : List Oper) (vs : List (Option Value)) (L : List (Nat × Value)) (i : Nat) (A : Act) (done : Nat → Bool) (u : Nat → Value) : Prop where
  ev : ∀ (s : Nat) (v : Value) (_ : slotAt l vs L i s = some v := by kernel_rfl), A.eval (.tmp s) = v
  nd : done i = false
  an : ∀ j, (ancAt l i).contains j = true → done j = true
  no : ∀ j, (ancAt l j).contains i = true → done j = false
  own : ∀ j d, ((l[j]?).bind fun o : Oper => o.dst) = some d → A.eval (.tmp d) = u j
  yl : ∀ j d b, (ancAt l i).contains j = true → ((l[j]?).bind fun o : Oper => o.dst) = some d → vs[j]? = some (some (.bool b)) → yielded l.toArray A.tmps j = some b

def StepX (P : Program) (l : List Oper) (vs : List (Option Value)) (L : List (Nat × Value)) (Q : Exit → Act → World → Prop) (R : (Nat → Bool) → (Nat → Value) → World → Prop) (i : Nat) (o : Oper) : Prop :=
  ∀ (A : Act) (done : Nat → Bool) (u : Nat → Value) (W : World), Ste l vs L i A done u → R done u W →
    if Region.wanted o (yielded l.toArray A.tmps) then ∀ K : Act → World → Prop, (∀ v W', (∀ x, vs[i]? = some (some x) → v = x) → R (upd done i) (fun j => if j = i then v else u j) W' → K (A.put o.dst v) W') → o.wp P A W K Q
    else (vs[i]? = some none ∧ R (upd done i) (fun j => if j = i then undef else u j) W)

/-- closed facts about a region -/
structure RegOk (l : List Oper) (vs : List (Option Value)) (n : Nat) : Prop where
  dag : (l.zipIdx.all fun (o, i) => (fore o).all (· < i)) = true
  nod : (dstsOf l).Nodup
  siz : ((dstsOf l).all (· < n)) = true
  len : vs.length = l.length
  ndf : (l.all fun o => match o.op with | .defer _ => false | _ => true) = true

theorem Kv.put {l : List Oper} {vs : List (Option Value)} {t : Array Value} {done : Nat → Bool} {u : Nat → Value} (h : Kv l vs t done u) {i : Nat} {v : Value} (hv : ∀ x, vs[i]? = some (some x) → v = x) : Kv l vs t (upd done i) (fun j => if j = i then v else u j) := by
  intro j
  by_cases e : j = i
  · subst e
    simp only [upd_self, if_true]
    exact ⟨fun _ x hx => hv x hx, fun h => by cases h⟩
  · simp only [upd_ne e, if_neg e]; exact h j

theorem ste_of {l : List Oper} {vs : List (Option Value)} {n : Nat} {L : List (Nat × Value)} {D : List Deferred} {a : Act} (F : Fr a n L D) (ok : RegOk l vs n) {i : Nat} {o : Oper} (ho : l[i]? = some o) {done : Nat → Bool} {u : Nat → Value} (hd : done i = false)
    (hanc : ∀ j ∈ anc l l.length (fore o), done j = true) (hclo : ∀ j oj, l[j]? = some oj → done j = true → ∀ k ∈ anc l l.length (fore oj), done k = true) (hk : Kv l vs a.tmps done u) :
    Ste l vs L i { a with tmps := fillL u l 0 a.tmps } done u := by
  have han : ∀ j, (ancAt l i).contains j = true → done j = true := fun j hj => by
    simp only [ancAt, ho] at hj
    exact hanc j (by simpa using hj)
  have hno : ∀ j, (ancAt l j).contains i = true → done j = false := fun j hj => by
    cases hoj : l[j]? with
    | none => simp [ancAt, hoj] at hj
    | some oj =>
      simp only [ancAt, hoj] at hj
      cases hdj : done j with
      | false => rfl
      | true => rw [hclo j oj hoj hdj i (by simpa using hj)] at hd; cases hd
  have hsz : ∀ (j : Nat) (o : Oper) (d : Nat), l[j]? = some o → o.dst = some d → d < a.tmps.size := fun j o d h1 h2 => by
    have := ok.siz
    rw [List.all_eq_true] at this
    rw [F.sz]
    have hm : d ∈ dstsOf l := by
      unfold dstsOf
      rw [List.mem_filterMap]
      exact ⟨o, List.mem_of_getElem? h1, h2⟩
    simpa using this d hm
  have hown : ∀ (j : Nat) (o : Oper) (d : Nat), l[j]? = some o → o.dst = some d → (fillL u l 0 a.tmps)[d]? = some (u j) := fun j o d h1 h2 => by
    have := fillL_get u l 0 j a.tmps o d ok.nod h1 h2 (hsz j o d h1 h2)
    rw [Nat.zero_add] at this; exact this
  refine ⟨fun s v hs => ?_, hd, han, hno, fun j d hj => ?_, fun j d b hj hdj0 hb => ?_⟩
  · refine eval_of ?_
    show (fillL u l 0 a.tmps)[s]? = some v
    unfold slotAt at hs
    cases hw : writer s l 0 with
    | none =>
      rw [hw] at hs
      rw [fillL_other u l 0 a.tmps s (writer_none hw)]
      exact F.look hs
    | some j =>
      rw [hw] at hs
      obtain ⟨_, oj, hoj, hdj⟩ := writer_some hw
      rw [Nat.sub_zero] at hoj
      rw [hown j oj s hoj hdj]
      simp only at hs
      split at hs
      · rename_i hc
        have hvj : vs[j]? = some (some v) := by
          cases hx : vs[j]? with
          | none => rw [hx] at hs; simp at hs
          | some x => rw [hx] at hs; simp at hs; rw [hs]
        rw [(hk j).1 (han j hc) v hvj]
      · split at hs
        · rename_i hc
          have hdn : done j = false := by
            rcases hc with rfl | hc
            · exact hd
            · exact hno j hc
          rw [(hk j).2 hdn oj s v hoj hdj (F.look hs)]
        · cases hs
  · cases hoj : l[j]? with
    | none => rw [hoj] at hj; simp at hj
    | some oj =>
      rw [hoj] at hj
      exact eval_of (hown j oj d hoj (by simpa using hj))
  · cases hoj : l[j]? with
    | none => rw [hoj] at hdj0; simp at hdj0
    | some oj =>
      rw [hoj] at hdj0
      have hdj : oj.dst = some d := by simpa using hdj0
      have huj := (hk j).1 (han j hj) _ hb
      simp [yielded, hoj, hdj, hown j oj d hoj hdj, huj]

/-- the operations one after the other -/
def wpL (P : Program) (ops : Array Oper) (Q : Exit → Act → World → Prop) : List Oper → Act → World → Prop
  | [], a, w => Q .normal a w
  | o :: rest, a, w => if Region.wanted o (yielded ops a.tmps) then o.wp P a w (wpL P ops Q rest) Q else wpL P ops Q rest (a.put o.dst undef) w
theorem wpL_step {P : Program} {ops : Array Oper} {Q : Exit → Act → World → Prop} {o : Oper} {rest : List Oper} {a : Act} {w : World}
    (h : ∀ K : Act → World → Prop, (∀ a w, wpL P ops Q rest a w → K a w) → if Region.wanted o (yielded ops a.tmps) then o.wp P a w K Q else K (a.put o.dst undef) w) : wpL P ops Q (o :: rest) a w := by
  have := h _ (fun _ _ h => h)
  unfold wpL
  exact this
theorem wpL_in {P : Program} {ops : Array Oper} {Q : Exit → Act → World → Prop} {ro : Option Nat} : ∀ (l : List Oper) (a : Act) (w : World), (l.all fun o => match o.op with | .defer _ => false | _ => true) = true → wpL P ops Q l a w → wpListIn { Fence.wide with round := ro } 0 P ops Q l a w := by
  intro l
  induction l with
  | nil => intro a w _ h; exact h
  | cons o r ih =>
    intro a w hd h
    simp only [List.all_cons, Bool.and_eq_true] at hd
    unfold wpL at h
    unfold wpListIn
    split
    · rename_i hw
      rw [if_pos hw] at h
      exact wpIn_of_wp (fun c hc => by have := hd.1; rw [hc] at this; cases this) (Oper.wp_mono (fun a w h => ih a w hd.2 h) h)
    · rename_i hw; rw [if_neg hw] at h; exact ⟨fun _ _ => trivial, ih _ _ hd.2 h⟩
theorem wpIn_region_L {P : Program} {id : Nat} {l : List Oper} {Q : Exit → Act → World → Prop} {a : Act} {w : World} {ro : Option Nat} (hd : (l.all fun o => match o.op with | .defer _ => false | _ => true) = true)
    (h : wpL P l.toArray Q l a w) : (Code.region id l.toArray false).wpIn { Fence.wide with round := ro } 0 P Q a w := wpIn_region_lit (wpL_in l a w hd h)

/-- **A REGION, DRAWN OR NOT**: each operation is walked once. vs: the values that are known; R: what holds of the world besides. -/
theorem region_xi {ro : Option Nat} {P : Program} {id : Nat} {l : List Oper} {d : Bool} {Q : Exit → Act → World → Prop} {a : Act} {w : World} {n : Nat} {L : List (Nat × Value)} {D : List Deferred} (F : Fr a n L D) (vs : List (Option Value)) (R : (Nat → Bool) → (Nat → Value) → World → Prop)
    (hm : P.follows .mixedOrders = true) (ok : RegOk l vs n) (h0 : ∀ u, R (fun _ => false) u w ∧ R (fun _ => false) u w.drew)
    (hstep : AllIdx (StepX P l vs L Q R) l 0)
    (hfin : ∀ (A : Act) (u : Nat → Value) (W : World), A.tmps.size = n → A.defers = D → (∀ s v, lastAt l vs L s = some v → A.tmps[s]? = some v) → (∀ j d, ((l[j]?).bind fun o : Oper => o.dst) = some d → A.tmps[d]? = some (u j)) → R (fun j => decide (j < l.length)) u W → Q .normal A W) :
    (Code.region id l.toArray d).wpIn { Fence.wide with round := ro } 0 P Q a w := by
  have hfin' : ∀ (done : Nat → Bool) (u : Nat → Value) (W : World), (∀ i, done i = decide (i < l.length)) → Kv l vs a.tmps done u → R done u W → Q .normal { a with tmps := fillL u l 0 a.tmps } W := by
    intro done u W hd hk hR
    have hde : done = fun j => decide (j < l.length) := funext hd
    subst hde
    have hsz : ∀ (j : Nat) (o : Oper) (d : Nat), l[j]? = some o → o.dst = some d → d < a.tmps.size := fun j o d h1 h2 => by
      have := ok.siz
      rw [List.all_eq_true] at this
      rw [F.sz]
      have hmm : d ∈ dstsOf l := by
        unfold dstsOf
        rw [List.mem_filterMap]
        exact ⟨o, List.mem_of_getElem? h1, h2⟩
      simpa using this d hmm
    have hown : ∀ (j : Nat) (o : Oper) (d : Nat), l[j]? = some o → o.dst = some d → (fillL u l 0 a.tmps)[d]? = some (u j) := fun j o d h1 h2 => by
      have := fillL_get u l 0 j a.tmps o d ok.nod h1 h2 (hsz j o d h1 h2)
      rw [Nat.zero_add] at this; exact this
    refine hfin _ u W (by show (fillL u l 0 a.tmps).size = n; rw [fillL_size]; exact F.sz) F.df (fun s v hs => ?_) (fun j d hj => ?_) hR
    · show (fillL u l 0 a.tmps)[s]? = some v
      unfold lastAt at hs
      cases hw : writer s l 0 with
      | none =>
        rw [hw] at hs
        rw [fillL_other u l 0 a.tmps s (writer_none hw)]
        exact F.look hs
      | some j =>
        rw [hw] at hs
        obtain ⟨_, oj, hoj, hdj⟩ := writer_some hw
        rw [Nat.sub_zero] at hoj
        rw [hown j oj s hoj hdj]
        simp only at hs
        have hvj : vs[j]? = some (some v) := by
          cases hx : vs[j]? with
          | none => rw [hx] at hs; simp at hs
          | some x => rw [hx] at hs; simp at hs; rw [hs]
        rw [(hk j).1 (by simpa using (List.getElem?_eq_some_iff.1 hoj).1) v hvj]
    · cases hoj : l[j]? with
      | none => rw [hoj] at hj; simp at hj
      | some oj =>
        rw [hoj] at hj
        exact hown j oj d hoj (by simpa using hj)
  have hk0 : ∀ u, fillL u l 0 a.tmps = a.tmps → Kv l vs a.tmps (fun _ => false) u := fun u hself j => ⟨(fun h => by cases h), fun _ o d v ho hd hv => fillL_was hself ok.nod j ho hd hv⟩
  cases d with
  | true =>
    refine region_inv2 (F := { Fence.wide with round := ro }) hm ok.dag ok.nod (fun _ => trivial) (fun done u W => (∀ i, l.length ≤ i → done i = false) ∧ Kv l vs a.tmps done u ∧ R done u W) (fun u hself => ⟨fun _ _ => rfl, hk0 u hself, (h0 u).2⟩) ?_ (fun u W ⟨done, hd, hb, hk, hR⟩ => hfin' done u W (fun i => by
      by_cases h : i < l.length
      · rw [hd i h]; simp [h]
      · rw [hb i (by omega)]; simp [h]) hk hR)
    have hall : ∀ (l' : List Oper) (k : Nat), (∀ i o, l'[i]? = some o → l[k + i]? = some o) → AllIdx (StepX P l vs L Q R) l' k → AllIdx (fun i o => ∀ (u : Nat → Value) (done : Nat → Bool) (W : World), done i = false → (∀ j ∈ anc l l.length (fore o), done j = true) → (∀ j oj, l[j]? = some oj → done j = true → ∀ k ∈ anc l l.length (fore oj), done k = true) → ((∀ i, l.length ≤ i → done i = false) ∧ Kv l vs a.tmps done u ∧ R done u W) →
        if Region.wanted o (yielded l.toArray (fillL u l 0 a.tmps)) then o.wpIn { Fence.wide with round := ro } 0 P { a with tmps := fillL u l 0 a.tmps } W (fun a' W' => ∃ v, a' = ({ a with tmps := fillL u l 0 a.tmps } : Act).put o.dst v ∧ ((∀ i', l.length ≤ i' → upd done i i' = false) ∧ Kv l vs a.tmps (upd done i) (fun j => if j = i then v else u j) ∧ R (upd done i) (fun j => if j = i then v else u j) W')) Q
        else ((∀ i', l.length ≤ i' → upd done i i' = false) ∧ Kv l vs a.tmps (upd done i) (fun j => if j = i then undef else u j) ∧ R (upd done i) (fun j => if j = i then undef else u j) W)) l' k := by
      intro l'
      induction l' with
      | nil => intro k _ _; trivial
      | cons o r ih =>
        intro k hl hs
        refine ⟨fun u done W hd hanc hclo ⟨hb, hk, hR⟩ => ?_, ih (k + 1) (fun i o h => by have := hl (i + 1) o (by simpa using h); rw [show k + 1 + i = k + (i + 1) by omega]; exact this) hs.2⟩
        have ho : l[k]? = some o := by simpa using hl 0 o (by simp)
        have hlt : k < l.length := (List.getElem?_eq_some_iff.1 ho).1
        have hb' : ∀ i', l.length ≤ i' → upd done k i' = false := fun i' hi' => by rw [upd_ne (by omega)]; exact hb i' hi'
        have hst := hs.1 _ done u W (ste_of F ok ho hd hanc hclo hk) hR
        by_cases hw : Region.wanted o (yielded l.toArray (fillL u l 0 a.tmps)) = true
        · rw [if_pos hw] at hst ⊢
          refine wpIn_of_wp (ro := ro) (fun c hc => ?_) (hst _ (fun v W' hv hR' => ⟨v, rfl, hb', hk.put hv, hR'⟩))
          have := ok.ndf
          rw [List.all_eq_true] at this
          have := this o (List.mem_of_getElem? ho)
          rw [hc] at this; cases this
        · rw [if_neg hw] at hst ⊢
          exact ⟨hb', hk.put (fun x hx => by rw [hst.1] at hx; cases hx), hst.2⟩
    exact hall l 0 (fun i o h => by simpa using h) hstep
  | false =>
    refine wpIn_region_L ok.ndf ?_
    obtain ⟨u0, hself⟩ : ∃ u0 : Nat → Value, fillL u0 l 0 a.tmps = a.tmps :=
      ⟨fun i => match l[i]? with | some o => (match o.dst with | some d => a.tmps.getD d undef | none => undef) | none => undef, by
        apply fillL_self
        intro i o d hi hd _
        simp only [Nat.zero_add, hi, hd]⟩
    have hfore : ∀ i o, l[i]? = some o → ∀ k ∈ fore o, k < i := by
      intro i o hi k hk
      have hdag := ok.dag
      rw [List.all_eq_true] at hdag
      have hmem : (o, i) ∈ l.zipIdx := by rw [List.mem_zipIdx_iff_getElem?]; exact hi
      have := hdag (o, i) hmem
      simp only [List.all_eq_true, decide_eq_true_eq] at this
      exact this k hk
    have main : ∀ (r : List Oper) (k : Nat) (u : Nat → Value) (W : World), (∀ i, r[i]? = l[k + i]?) → k + r.length = l.length → AllIdx (StepX P l vs L Q R) r k → Kv l vs a.tmps (fun j => decide (j < k)) u → R (fun j => decide (j < k)) u W →
        wpL P l.toArray Q r { a with tmps := fillL u l 0 a.tmps } W := by
      intro r
      induction r with
      | nil =>
        intro k u W _ hlen _ hk hR
        have hkl : k = l.length := by simpa using hlen
        subst hkl
        exact hfin' _ u W (fun i => rfl) hk hR
      | cons o r ih =>
        intro k u W hl hlen hs hk hR
        have ho : l[k]? = some o := by have := hl 0; simpa using this.symm
        have hup : (fun j => decide (j < k + 1)) = upd (fun j => decide (j < k)) k := by
          funext j
          unfold upd
          by_cases e : j = k
          · subst e; simp
          · rw [if_neg e]; congr 1; apply propext; constructor <;> intro h <;> omega
        have hst := hs.1 _ _ u W (ste_of F ok ho (by simp) (fun j hj => by have := hlt_anc l hfore k o ho j hj; simpa using this) (fun j oj hoj hj k' hk' => by
          have h1 := hlt_anc l hfore j oj hoj k' hk'
          simp at hj ⊢; omega) hk) hR
        have hnext : ∀ v W', (∀ x, vs[k]? = some (some x) → v = x) → R (upd (fun j => decide (j < k)) k) (fun j => if j = k then v else u j) W' → wpL P l.toArray Q r (({ a with tmps := fillL u l 0 a.tmps } : Act).put o.dst v) W' := by
          intro v W' hv hR'
          have hput : (({ a with tmps := fillL u l 0 a.tmps } : Act).put o.dst v) = { a with tmps := fillL (fun j => if j = k then v else u j) l 0 a.tmps } := by
            cases hd : o.dst with
            | none =>
              simp only [Act.put]
              rw [fillL_none u v l 0 k a.tmps o ho hd, Nat.zero_add]
            | some d =>
              simp only [Act.put]
              rw [fillL_put u v l 0 k a.tmps o d ok.nod ho hd, Nat.zero_add]
          rw [hput]
          refine ih (k + 1) _ W' (fun i => by have := hl (i + 1); simp at this; rw [this]; congr 1; omega) (by simp at hlen; omega) hs.2 ?_ ?_
          · rw [hup]; exact hk.put hv
          · rw [hup]; exact hR'
        refine wpL_step fun K hK => ?_
        by_cases hw : Region.wanted o (yielded l.toArray (fillL u l 0 a.tmps)) = true
        · rw [if_pos hw] at hst ⊢
          exact hst K (fun v W' hv hR' => hK _ _ (hnext v W' hv hR'))
        · rw [if_neg hw] at hst ⊢
          exact hK _ _ (hnext undef W (fun x hx => by rw [hst.1] at hx; cases hx) hst.2)
    have := main l 0 u0 w (fun i => by simp) (by simp) hstep (by
      have := hk0 u0 hself
      simpa using this) (by simpa using (h0 u0).1)
    rw [hself] at this
    exact this
end
section
/-- the time of version v of computer c -/
def tm (T : List (List Int)) (c : Nat) (v : Int) : Int := (T[c]?.getD [])[v.toNat - 1]?.getD 0

/-- no number of xs is below that of ys -/
def aboveV (xs ys : List Int) : Bool := (List.range xs.length).all fun i => decide (ys[i]?.getD 0 ≤ xs[i]?.getD 0)

theorem aboveV_true {xs ys : List Int} {n : Nat} (hn : xs.length = n) (h : ∀ j, j < n → ys[j]?.getD 0 ≤ xs[j]?.getD 0) : aboveV xs ys = true := by
  subst hn; simp only [aboveV, List.all_eq_true, List.mem_range, decide_eq_true_eq]; exact h
theorem aboveV_false {xs ys : List Int} {n k : Nat} (hn : xs.length = n) (hk : k < n) (h : xs[k]?.getD 0 < ys[k]?.getD 0) : aboveV xs ys = false := by
  subst hn
  rw [Bool.eq_false_iff]; intro hc
  simp only [aboveV, List.all_eq_true, List.mem_range, decide_eq_true_eq] at hc
  have := hc k hk; omega

/-- the time of a step, over the first k computers -/
def durTo (T : List (List Int)) (a b : List Int) : Nat → Int
  | 0 => 0
  | k + 1 => durTo T a b k + if b[k]?.getD 0 = a[k]?.getD 0 then 0 else tm T k (b[k]?.getD 0)
def dur (T : List (List Int)) (a b : List Int) : Int := durTo T a b b.length

/-- a computer has a version -/
def verB (T : List (List Int)) (c v : Int) : Bool := decide (0 ≤ c) && decide (c < T.length) && decide (0 ≤ v) && decide (v ≤ ((T[c.toNat]?.getD []).length : Int))

structure FlOk (f : Fl) : Prop where
  n1 : 1 ≤ f.times.length
  n6 : f.times.length ≤ 6
  row : ∀ c, c < f.times.length → (f.times[c]?.getD []).length ≤ 3
  time : ∀ c v, c < f.times.length → v < (f.times[c]?.getD []).length → 1 ≤ (f.times[c]?.getD [])[v]?.getD 0 ∧ (f.times[c]?.getD [])[v]?.getD 0 ≤ 10000
  cl60 : f.cl.length ≤ 60
  cl : ∀ i, i < f.cl.length → verB f.times (f.cl[i]?.getD default).a (f.cl[i]?.getD default).va = true ∧ verB f.times (f.cl[i]?.getD default).b (f.cl[i]?.getD default).vb = true ∧
    (f.cl[i]?.getD default).a ≠ (f.cl[i]?.getD default).b

structure StOk (f : Fl) (s : List Int) : Prop where
  len : s.length = f.times.length
  ver : ∀ c, c < f.times.length → 0 ≤ s[c]?.getD 0 ∧ s[c]?.getD 0 ≤ ((f.times[c]?.getD []).length : Int)


theorem tm_bd {f : Fl} (h : FlOk f) {c : Nat} (hc : c < f.times.length) {v : Int} (h1 : 1 ≤ v) (h2 : v ≤ ((f.times[c]?.getD []).length : Int)) : 1 ≤ tm f.times c v ∧ tm f.times c v ≤ 10000 := by
  unfold tm; exact h.time c (v.toNat - 1) hc (by omega)

theorem durTo_bd' {f : Fl} (h : FlOk f) {a b : List Int} (ha : ∀ c, c < f.times.length → 0 ≤ a[c]?.getD 0) (hb : StOk f b) :
    ∀ k, k ≤ f.times.length → (∀ c, c < k → a[c]?.getD 0 ≤ b[c]?.getD 0) → 0 ≤ durTo f.times a b k ∧ durTo f.times a b k ≤ 10000 * k := by
  intro k
  induction k with
  | zero => intro _ _; simp [durTo]
  | succ k ih =>
    intro hk hab
    have := ih (by omega) (fun c hc => hab c (by omega))
    simp only [durTo]
    split
    · omega
    · rename_i hne
      have h1 := ha k (by omega)
      have h2 := hab k (by omega)
      have h3 := (hb.ver k (by omega)).2
      have := tm_bd h (c := k) (by omega) (v := b[k]?.getD 0) (by omega) h3
      omega

theorem durTo_bd {f : Fl} (h : FlOk f) {a b : List Int} (ha : ∀ c, c < f.times.length → 0 ≤ a[c]?.getD 0) (hb : StOk f b) (hab : ∀ c, c < f.times.length → a[c]?.getD 0 ≤ b[c]?.getD 0) :
    ∀ k, k ≤ f.times.length → 0 ≤ durTo f.times a b k ∧ durTo f.times a b k ≤ 10000 * k := fun k hk => durTo_bd' h ha hb k hk (fun c hc => hab c (by omega))



/-- the first clash from k on that applies to a state -/
def applies (c : Cl) (s : List Int) : Bool := (s[c.a.toNat]?.getD 0 == c.va) && (s[c.b.toNat]?.getD 0 == c.vb)
def clashFrom (C : List Cl) (s : List Int) : Nat → Nat → Int
  | 0, _ => -1
  | m + 1, k => if applies (C[k]?.getD default) s then (k : Int) else clashFrom C s m (k + 1)
def clashI (f : Fl) (s : List Int) : Int := clashFrom f.cl s f.cl.length 0
def worksB (f : Fl) (s : List Int) : Bool := decide (clashI f s < 0)
end
section
open Go.RowKit

def withinB (n lo hi : Int) : Bool := decide (lo ≤ n) && decide (n ≤ hi)

set_option maxHeartbeats 400000 in
theorem within_any (n lo hi : Int) (w : World) : Calls Try.prog 64 #[.int .i64 n, .int .i64 lo, .int .i64 hi] w fun e w' => e = .returned (.bool (withinB n lo hi)) ∧ w = w' := by
  by_cases h1 : lo ≤ n
  · by_cases h2 : n ≤ hi
    · go_enter Try.func64, Try.ntmps64
      go_wp2
      go_ret
      exact ⟨by simp [withinB, h1, h2], rfl⟩
    · go_enter Try.func64, Try.ntmps64
      go_wp2
      go_ret
      exact ⟨by simp [withinB, h2], rfl⟩
  · have : decide (lo ≤ n) = false := by simpa using h1
    go_enter Try.func64, Try.ntmps64
    go_wp2
    go_ret
    exact ⟨ret_bool (by simp only [withinB, this, Bool.false_and]), rfl⟩


/-- two lists agree on their first n numbers -/
def eqUpto (n : Nat) (xs ys : List Int) : Prop := ∀ j, j < n → xs[j]?.getD 0 = ys[j]?.getD 0

theorem eqUpto_iff {xs ys : List Int} (h : xs.length = ys.length) : eqUpto xs.length xs ys ↔ xs = ys := by
  constructor
  · intro hu
    apply List.ext_getElem h
    intro i h1 h2
    have := hu i h1
    simpa [h1, h2] using this
  · rintro rfl j _; rfl

set_option maxHeartbeats 400000 in
theorem above_any (a b : Option Addr) (n c m d : Nat) (xs ys : List Int) (w : World) (ha : Ints w a n xs) (hb : Ints w b m ys) (hnm : n ≤ m) :
    Calls Try.prog 58 #[.slice a n c, .slice b m d] w fun e w' => e = .returned (.bool (aboveV xs ys)) ∧ ∃ q, w' = w.drewN q := by
  have hn := ha.lt
  go_enter Try.func58, Try.ntmps58
  go_wp2
  go_loopw [8] (fun i wr => ∃ k q : Nat, k ≤ n ∧ i = .int .i64 k ∧ wr = w.drewN q ∧ Hid (∀ j, j < k → ys[j]?.getD 0 ≤ xs[j]?.getD 0)) (fun i _ => n - (intOf i).toNat)
  case atStart => exact ⟨0, 0, Nat.zero_le _, rfl, rfl, Lib.hid (by intros; omega)⟩
  case round =>
    obtain ⟨k, q, hk, rfl, rfl, hall⟩ := hrel
    by_cases hlt : k < n
    · obtain ⟨aa, rfl, hab, hac⟩ := ha.at hlt
      obtain ⟨bb, rfl, hbb, hbc⟩ := hb.at (j := k) (by omega)
      by_cases hc : xs[k]?.getD 0 < ys[k]?.getD 0
      · go_wp2
        go_region
        go_wp2
        go_ret
        exact ⟨ret_bool (aboveV_false ha.len hlt hc).symm, _, rfl⟩
      · go_wp2
        go_region
        go_wp2
        go_roundw
        case rel => exact ⟨k + 1, _, by omega, by go_num, rfl, Lib.hid (fun j hj => by
          by_cases e : j = k
          · subst e; omega
          · exact hall.out j (by omega))⟩
        case measure => simp [intOf]; omega
    · obtain rfl : k = n := by omega
      go_wp2
      go_ret
      exact ⟨ret_bool (aboveV_true ha.len hall.out).symm, _, rfl⟩

theorem decide_eq_of_upto {n : Nat} {xs ys : List Int} (hx : xs.length = n) (hy : ys.length = n) (h : ∀ j, j < n → xs[j]?.getD 0 = ys[j]?.getD 0) : decide (xs = ys) = true := by
  subst hx; simp only [decide_eq_true_eq]; exact (eqUpto_iff hy.symm).1 h
theorem decide_ne_of_at {k : Nat} {xs ys : List Int} (h : ¬ xs[k]?.getD 0 = ys[k]?.getD 0) : decide (xs = ys) = false := by
  simp only [decide_eq_false_iff_not]; rintro rfl; exact h rfl
theorem decide_ne_of_len {xs ys : List Int} (h : ¬ xs.length = ys.length) : decide (xs = ys) = false := by
  simp only [decide_eq_false_iff_not]; rintro rfl; exact h rfl

set_option maxHeartbeats 400000 in
theorem equal_any (a b : Option Addr) (n c m d : Nat) (xs ys : List Int) (w : World) (ha : Ints w a n xs) (hb : Ints w b m ys) :
    Calls Try.prog 53 #[.slice a n c, .slice b m d] w fun e w' => e = .returned (.bool (decide (xs = ys))) ∧ ∃ q, w' = w.drewN q := by
  have hn := ha.lt
  by_cases hnm : n = m
  · subst hnm
    go_enter Try.func53, Try.ntmps53
    go_wp2
    go_loopw [13] (fun i wr => ∃ k q : Nat, k ≤ n ∧ i = .int .i64 k ∧ wr = w.drewN q ∧ Hid (∀ j, j < k → xs[j]?.getD 0 = ys[j]?.getD 0)) (fun i _ => n - (intOf i).toNat)
    case atStart => exact ⟨0, 0, Nat.zero_le _, rfl, rfl, Lib.hid (by intros; omega)⟩
    case round =>
      obtain ⟨k, q, hk, rfl, rfl, hall⟩ := hrel
      by_cases hlt : k < n
      · obtain ⟨aa, rfl, hab, hac⟩ := ha.at hlt
        obtain ⟨bb, rfl, hbb, hbc⟩ := hb.at (j := k) (by omega)
        by_cases hc : xs[k]?.getD 0 = ys[k]?.getD 0
        · have hcb : (xs[k]?.getD 0 != ys[k]?.getD 0) = false := by simp [hc]
          have HC := Lib.hid hc
          clear hc
          go_wp2
          go_region
          go_wp2
          go_roundw
          case rel => exact ⟨k + 1, _, by omega, by go_num, rfl, Lib.hid (fun j hj => by
            by_cases e : j = k
            · subst e; exact HC.out
            · exact hall.out j (by omega))⟩
          case measure => simp [intOf]; omega
        · have hcb : (xs[k]?.getD 0 != ys[k]?.getD 0) = true := by simp [hc]
          have HC := Lib.hid hc
          clear hc
          go_wp2
          go_region
          go_wp2
          go_ret
          exact ⟨ret_bool (decide_ne_of_at HC.out).symm, _, rfl⟩
      · obtain rfl : k = n := by omega
        go_wp2
        go_ret
        exact ⟨ret_bool (decide_eq_of_upto ha.len hb.len hall.out).symm, _, rfl⟩
  · have hne : ((n : Int) != (m : Int)) = true := by rw [bne_iff_ne]; omega
    go_enter Try.func53, Try.ntmps53
    go_wp2
    go_ret
    exact ⟨ret_bool (decide_ne_of_len (by rw [ha.len, hb.len]; exact hnm)).symm, 0, rfl⟩
end
section
open Go.RowKit

theorem verB_out {T : List (List Int)} {x v : Int} (h : ¬ (0 ≤ x ∧ x < T.length)) : verB T x v = false := by
  unfold verB
  by_cases h1 : 0 ≤ x <;> by_cases h2 : x < T.length <;> simp [h1, h2] <;> omega
theorem withinB_eq_false {n lo hi : Int} (h : ¬ (lo ≤ n ∧ n ≤ hi)) : withinB n lo hi = false := by
  unfold withinB; by_cases h1 : lo ≤ n <;> by_cases h2 : n ≤ hi <;> simp [h1, h2]; omega
theorem withinB_eq_true {n lo hi : Int} (h : lo ≤ n ∧ n ≤ hi) : withinB n lo hi = true := by
  unfold withinB; simp [h.1, h.2]

set_option maxHeartbeats 1000000 in
theorem version_any (ta ca : Option Addr) (tn tc cn cc : Nat) (f : Fl) (x v : Int) (w : World) (hf : FlAt w ta tn ca cn f) :
    Calls Try.prog 79 #[.agg #[.slice ta tn tc, .slice ca cn cc], .int .i64 x, .int .i64 v] w fun e w' => e = .returned (.bool (verB f.times x v)) ∧ Gr w w' := by
  have hlt := hf.t.lt
  have htn := hf.t.len
  have HT := Lib.hid htn
  clear htn
  by_cases h1 : 0 ≤ x ∧ x ≤ (tn : Int) - 1
  · obtain ⟨h1, h2⟩ := h1
    have hw1 := withinB_eq_true (n := x) (lo := 0) (hi := (tn : Int) - 1) ⟨h1, h2⟩
    obtain ⟨k, rfl⟩ := Int.eq_ofNat_of_zero_le h1
    have hg := Gr.alloc w (.cells #[.slice ta tn tc, .slice ca cn cc] 25)
    obtain ⟨tt, ra, rn, rc, rfl, htb, htc, hri⟩ := (hf.t.gr hg).at (j := k) (by omega)
    have hrl := hri.lt
    have hx2 : (k : Int) < tn := by omega
    have hres : verB f.times k v = withinB v 0 rn := by
      unfold verB withinB
      have e1 : (0 : Int) ≤ k := by omega
      have e2 : (k : Int) < f.times.length := by have := HT.out; omega
      have e3 : ((f.times[(k : Int).toNat]?.getD []).length : Int) = rn := by rw [Int.toNat_natCast, hri.len]
      rw [e3]; simp [e1, e2]
    have HR := Lib.hid hres
    clear hres
    go_enter Try.func79, Try.ntmps79
    go_wp2_with (go_at_call 64; refine (within_any _ _ _ _).mono ?_; rintro e w' ⟨rfl, rfl⟩)
    go_ret
    exact ⟨ret_bool HR.out.symm, hg⟩
  · have hw1 := withinB_eq_false (n := x) (lo := 0) (hi := (tn : Int) - 1) h1
    have hres : verB f.times x v = false := verB_out (by have := HT.out; omega)
    have HR := Lib.hid hres
    clear hres h1
    go_enter Try.func79, Try.ntmps79
    go_wp2_with (go_at_call 64; refine (within_any _ _ _ _).mono ?_; rintro e w' ⟨rfl, rfl⟩)
    go_ret
    exact ⟨ret_bool HR.out.symm, Gr.alloc _ _⟩

set_option maxHeartbeats 1000000 in
theorem clash1_any (a : Option Addr) (n c B : Nat) (x : Cl) (s : List Int) (w : World) (hB : B < w.heap.size) (hc : w.cell? ⟨B, 0, none⟩ = some (.slice a n c)) (hs : Ints w a n s)
    (ha : 0 ≤ x.a ∧ x.a < n) (hb : 0 ≤ x.b ∧ x.b < n) :
    Calls Try.prog 100 #[.agg #[.int .i64 x.a, .int .i64 x.va, .int .i64 x.b, .int .i64 x.vb], .pointer (some ⟨B, 0, none⟩)] w fun e w' => e = .returned (.bool (applies x s)) ∧ Gr w w' := by
  obtain ⟨ha1, ha2⟩ := ha
  obtain ⟨hb1, hb2⟩ := hb
  have hn := hs.lt
  obtain ⟨aa, rfl, hab, hac⟩ := hs.at (j := x.a.toNat) (by omega)
  obtain ⟨bb, e, hbb, hbc⟩ := hs.at (j := x.b.toNat) (by omega)
  injection e with e
  subst e
  have hg := Gr.alloc w (.cells #[.int .i64 x.a, .int .i64 x.va, .int .i64 x.b, .int .i64 x.vb] 107)
  have hac1 := (hg.cell (p := aa.add x.a.toNat) (by rw [add_block]; exact hab)).trans hac
  have hbc1 := (hg.cell (p := aa.add x.b.toNat) (by rw [add_block]; exact hab)).trans hbc
  have hc1 := (hg.cell (p := ⟨B, 0, none⟩) hB).trans hc
  by_cases h1 : (s[x.a.toNat]?.getD 0 == x.va) = true
  · have hres : applies x s = (s[x.b.toNat]?.getD 0 == x.vb) := by simp only [applies, h1, Bool.true_and]
    have HR := Lib.hid hres
    clear hres
    go_enter Try.func100, Try.ntmps100
    go_wp2
    go_quiet (fail)
    go_wp2
    go_ret
    exact ⟨ret_bool HR.out.symm, hg.drewNR _⟩
  · have h1' : (s[x.a.toNat]?.getD 0 == x.va) = false := by simpa using h1
    have hres : applies x s = false := by simp only [applies, h1', Bool.false_and]
    have HR := Lib.hid hres
    clear hres h1
    go_enter Try.func100, Try.ntmps100
    go_wp2
    go_quiet (fail)
    go_wp2
    go_ret
    exact ⟨ret_bool HR.out.symm, hg.drewNR _⟩

theorem clashFrom_hit {C : List Cl} {s : List Int} {m k : Nat} (hm : 0 < m) (h : applies (C[k]?.getD default) s = true) : clashFrom C s m k = k := by
  cases m with
  | zero => omega
  | succ m => simp [clashFrom, h]
theorem clashFrom_miss {C : List Cl} {s : List Int} {m k : Nat} (h : applies (C[k]?.getD default) s = false) : clashFrom C s (m + 1) k = clashFrom C s m (k + 1) := by
  simp [clashFrom, h]

set_option maxHeartbeats 1000000 in
theorem indexFunc_clash (ca a : Option Addr) (cn cc n c B : Nat) (C : List Cl) (s : List Int) (w : World) (hC : ClAt w ca cn C) (hB : B < w.heap.size) (hc : w.cell? ⟨B, 0, none⟩ = some (.slice a n c)) (hs : Ints w a n s)
    (hin : ∀ i, i < cn → (0 ≤ (C[i]?.getD default).a ∧ (C[i]?.getD default).a < n) ∧ (0 ≤ (C[i]?.getD default).b ∧ (C[i]?.getD default).b < n)) :
    Calls Try.prog 99 #[.slice ca cn cc, .func (.func 100) #[] #[.pointer (some ⟨B, 0, none⟩)]] w fun e w' => e = .returned (.int .i64 (clashFrom C s C.length 0)) ∧ Gr w w' := by
  have hn := hC.lt
  have hl := hC.len
  have HL := Lib.hid hl
  have HIN := Lib.hid hin
  clear hl hin
  go_enter Try.func99, Try.ntmps99
  go_wp2
  go_loopw [8] (fun i wr => ∃ k : Nat, k ≤ cn ∧ i = .int .i64 k ∧ Gr w wr ∧ Hid (clashFrom C s C.length 0 = clashFrom C s (cn - k) k)) (fun i _ => cn - (intOf i).toNat)
  case atStart => exact ⟨0, Nat.zero_le _, rfl, Gr.refl _, Lib.hid (by rw [HL.out]; rfl)⟩
  case round =>
    obtain ⟨k, hk, rfl, hg, hcl⟩ := hrel
    by_cases hlt : k < cn
    · obtain ⟨aa, rfl, hab, c0, c1, c2, c3⟩ := (hC.gr hg).at hlt
      have hi := HIN.out k hlt
      have hcB := (hg.cell (p := ⟨B, 0, none⟩) hB).trans hc
      have hcon := clash1_any a n c B (C[k]?.getD default) s wr (Nat.lt_of_lt_of_le hB hg.size) hcB (hs.gr hg) hi.1 hi.2
      have HCON := Lib.hid hcon
      clear hcon hi hcB hc
      cases hap : applies (C[k]?.getD default) s with
      | true =>
        rw [hap] at HCON
        go_wp2_with (go_at_call 100; refine HCON.out.mono ?_; rintro e w' ⟨rfl, hg2⟩)
        go_ret
        exact ⟨ret_int (by rw [hcl.out, clashFrom_hit (by omega) hap]), hg.trans hg2⟩
      | false =>
        rw [hap] at HCON
        go_wp2_with (go_at_call 100; refine HCON.out.mono ?_; rintro e w' ⟨rfl, hg2⟩)
        go_roundw
        case rel => exact ⟨k + 1, by omega, by go_num, hg.trans hg2, Lib.hid (by
          rw [hcl.out]
          have e : cn - k = cn - (k + 1) + 1 := by omega
          rw [e, clashFrom_miss hap])⟩
        case measure => simp [intOf]; omega
    · obtain rfl : k = cn := by omega
      go_wp2
      go_ret
      exact ⟨ret_int (by rw [hcl.out, Nat.sub_self]; rfl), hg⟩
theorem verB_in {T : List (List Int)} {c v : Int} (h : verB T c v = true) : 0 ≤ c ∧ c < T.length ∧ 0 ≤ v ∧ v ≤ ((T[c.toNat]?.getD []).length : Int) := by
  simp only [verB, Bool.and_eq_true, decide_eq_true_eq] at h
  exact ⟨h.1.1.1, h.1.1.2, h.1.2, h.2⟩

theorem FlOk.cin {f : Fl} (h : FlOk f) {s : List Int} (hs : StOk f s) {n : Nat} (hn : s.length = n) : ∀ i, i < f.cl.length → (0 ≤ (f.cl[i]?.getD default).a ∧ (f.cl[i]?.getD default).a < n) ∧ (0 ≤ (f.cl[i]?.getD default).b ∧ (f.cl[i]?.getD default).b < n) := by
  intro i hi
  obtain ⟨h1, h2, _⟩ := h.cl i hi
  have := verB_in h1
  have := verB_in h2
  have := hs.len
  omega

set_option maxHeartbeats 1000000 in
theorem clash_any (ta ca a : Option Addr) (tn tc cn cc n c : Nat) (f : Fl) (s : List Int) (w : World) (hf : FlAt w ta tn ca cn f) (hok : FlOk f) (hs : Ints w a n s) (hst : StOk f s) :
    Calls Try.prog 81 #[.agg #[.slice ta tn tc, .slice ca cn cc], .slice a n c] w fun e w' => e = .returned (.int .i64 (clashI f s)) ∧ Gr w w' := by
  have hin := hok.cin hst hs.len
  rw [hf.c.len] at hin
  have HIN := Lib.hid hin
  clear hin
  obtain ⟨w2, hw2⟩ : ∃ w2, (w.alloc (.cells #[.slice ta tn tc, .slice ca cn cc] 25)).alloc (.cells #[.slice a n c] 26) = w2 := ⟨_, rfl⟩
  have hg : Gr w w2 := by rw [← hw2]; exact (Gr.alloc _ _).allocR _
  have hsz : w.heap.size + 1 < w2.heap.size := by rw [← hw2]; simp
  have hcell : w2.cell? ⟨w.heap.size + 1, 0, none⟩ = some (.slice a n c) := by rw [← hw2]; simp
  have hcall := indexFunc_clash ca a cn cc n c (w.heap.size + 1) f.cl s w2 (hf.c.gr hg) hsz hcell (hs.gr hg) HIN.out
  rw [← hw2] at hcall
  have HC := Lib.hid hcall
  clear hcall hcell
  subst hw2
  go_enter Try.func81, Try.ntmps81
  go_wp2_with (go_at_call 99; refine HC.out.mono ?_; rintro e w' ⟨rfl, hg2⟩)
  go_ret
  exact ⟨rfl, hg.trans hg2⟩

set_option maxHeartbeats 1000000 in
theorem works_any (ta ca a : Option Addr) (tn tc cn cc n c : Nat) (f : Fl) (s : List Int) (w : World) (hf : FlAt w ta tn ca cn f) (hok : FlOk f) (hs : Ints w a n s) (hst : StOk f s) :
    Calls Try.prog 51 #[.agg #[.slice ta tn tc, .slice ca cn cc], .slice a n c] w fun e w' => e = .returned (.bool (worksB f s)) ∧ Gr w w' := by
  go_enter Try.func51, Try.ntmps51
  have hg := Gr.alloc w (.cells #[.slice ta tn tc, .slice ca cn cc] 25)
  go_wp2_with (go_at_call 81; refine (clash_any _ _ _ _ _ _ _ _ _ f s _ (hf.gr hg) hok (hs.gr hg) hst).mono ?_; rintro e w' ⟨rfl, hg2⟩)
  go_ret
  exact ⟨ret_bool rfl, hg.trans hg2⟩
end
section
def rowOk (l : List Int) : Bool := decide (l.length ≤ 3) && !(l.any fun n => !withinB n 1 10000)
def clOk (T : List (List Int)) (c : Cl) : Bool := !(c.a == c.b) && verB T c.a c.va && verB T c.b c.vb
def chkB (f : Fl) : Bool := withinB f.times.length 1 6 && decide (f.cl.length ≤ 60) && (List.range f.times.length).all (fun i => rowOk (f.times[i]?.getD [])) && (List.range f.cl.length).all (fun i => clOk f.times (f.cl[i]?.getD default))
def chkE (f : Fl) : Int := if chkB f then 0 else 110

theorem chkE_head {f : Fl} (h : withinB f.times.length 1 6 = false ∨ 60 < f.cl.length) : chkE f = 110 := by
  have : chkB f = false := by
    rcases h with h | h
    · simp [chkB, h]
    · simp [chkB, show ¬ f.cl.length ≤ 60 by omega]
  simp [chkE, this]
theorem chkE_row {f : Fl} {k : Nat} (hk : k < f.times.length) (h : rowOk (f.times[k]?.getD []) = false) : chkE f = 110 := by
  have : (List.range f.times.length).all (fun i => rowOk (f.times[i]?.getD [])) = false := by
    rw [Bool.eq_false_iff]; intro hc
    rw [List.all_eq_true] at hc
    have := hc k (List.mem_range.2 hk)
    rw [h] at this; cases this
  simp only [chkE, chkB, this, Bool.and_false, Bool.false_and, Bool.false_eq_true, if_false]
theorem chkE_cl {f : Fl} {k : Nat} (hk : k < f.cl.length) (h : clOk f.times (f.cl[k]?.getD default) = false) : chkE f = 110 := by
  have : (List.range f.cl.length).all (fun i => clOk f.times (f.cl[i]?.getD default)) = false := by
    rw [Bool.eq_false_iff]; intro hc
    rw [List.all_eq_true] at hc
    have := hc k (List.mem_range.2 hk)
    rw [h] at this; cases this
  simp only [chkE, chkB, this, Bool.and_false, Bool.false_eq_true, if_false]
theorem chkE_ok {f : Fl} (h1 : withinB f.times.length 1 6 = true) (h2 : f.cl.length ≤ 60) (h3 : ∀ j, j < f.times.length → rowOk (f.times[j]?.getD []) = true) (h4 : ∀ j, j < f.cl.length → clOk f.times (f.cl[j]?.getD default) = true) : chkE f = 0 := by
  have e3 : (List.range f.times.length).all (fun i => rowOk (f.times[i]?.getD [])) = true := by
    rw [List.all_eq_true]; intro x hx; exact h3 x (List.mem_range.1 hx)
  have e4 : (List.range f.cl.length).all (fun i => clOk f.times (f.cl[i]?.getD default)) = true := by
    rw [List.all_eq_true]; intro x hx; exact h4 x (List.mem_range.1 hx)
  simp only [chkE, chkB, h1, e3, e4, Bool.and_true, if_true, Bool.true_and, decide_eq_true_eq, h2]

theorem withinB_iff {n lo hi : Int} : withinB n lo hi = true ↔ lo ≤ n ∧ n ≤ hi := by simp [withinB]

theorem any_getD {l : List Int} {p : Int → Bool} (h : l.any p = false) : ∀ v, v < l.length → p (l[v]?.getD 0) = false := by
  intro v hv
  rw [List.any_eq_false] at h
  have := h (l[v]) (List.getElem_mem hv)
  simpa [hv] using this

theorem chkB_ok {f : Fl} (h : chkB f = true) : FlOk f := by
  simp only [chkB, Bool.and_eq_true, decide_eq_true_eq, List.all_eq_true, List.mem_range] at h
  obtain ⟨⟨⟨h1, h2⟩, h3⟩, h4⟩ := h
  rw [withinB_iff] at h1
  refine ⟨by omega, by omega, fun c hc => ?_, fun c v hc hv => ?_, h2, fun i hi => ?_⟩
  · have := h3 c hc
    simp only [rowOk, Bool.and_eq_true, decide_eq_true_eq] at this
    exact this.1
  · have := h3 c hc
    simp only [rowOk, Bool.and_eq_true, decide_eq_true_eq, Bool.not_eq_true'] at this
    have := any_getD this.2 v hv
    simp only [Bool.not_eq_false'] at this
    exact withinB_iff.1 this
  · have := h4 i hi
    simp only [clOk, Bool.and_eq_true, Bool.not_eq_true', beq_eq_false_iff_ne] at this
    exact ⟨this.1.2, this.2, this.1.1⟩

/-- a state is one of a fleet's -/
def stB (T : List (List Int)) (s : List Int) : Bool := decide (s.length = T.length) && (List.range s.length).all fun c => verB T c (s[c]?.getD 0)

theorem stB_ok {f : Fl} {s : List Int} (h : stB f.times s = true) : StOk f s := by
  simp only [stB, Bool.and_eq_true, decide_eq_true_eq, List.all_eq_true, List.mem_range] at h
  refine ⟨h.1, fun c hc => ?_⟩
  have := verB_in (h.2 c (by omega))
  simp only [Int.toNat_natCast] at this
  exact ⟨this.2.2.1, this.2.2.2⟩
theorem stB_len {T : List (List Int)} {s : List Int} (h : ¬ s.length = T.length) : stB T s = false := by simp [stB, h]
theorem stB_at {T : List (List Int)} {s : List Int} {k : Nat} (hk : k < s.length) (h : verB T k (s[k]?.getD 0) = false) : stB T s = false := by
  have : (List.range s.length).all (fun c => verB T c (s[c]?.getD 0)) = false := by
    rw [Bool.eq_false_iff]; intro hc
    rw [List.all_eq_true] at hc
    have := hc k (List.mem_range.2 hk)
    rw [h] at this; cases this
  simp only [stB, this, Bool.and_false]
theorem stB_true {T : List (List Int)} {s : List Int} (h1 : s.length = T.length) (h2 : ∀ c, c < s.length → verB T c (s[c]?.getD 0) = true) : stB T s = true := by
  simp only [stB, Bool.and_eq_true, decide_eq_true_eq, List.all_eq_true, List.mem_range]; exact ⟨h1, h2⟩
end
section
open Go.RowKit

def IdxPost (b : Bool) (w : World) (e : Ending) (w' : World) : Prop := ∃ r : Int, e = .returned (.int .i64 r) ∧ decide (0 ≤ r) = b ∧ Gr w w'

theorem check1_any (n : Int) (w : World) : Calls Try.prog 78 #[.int .i64 n] w fun e w' => e = .returned (.bool (!withinB n 1 10000)) ∧ Gr w w' := by
  go_enter Try.func78, Try.ntmps78
  go_wp2_with (go_at_call 64; refine (within_any _ _ _ _).mono ?_; rintro e w' ⟨rfl, rfl⟩)
  go_ret
  exact ⟨rfl, Gr.refl _⟩

theorem any_hit {l : List Int} {p : Int → Bool} {k : Nat} (hk : k < l.length) (h : p (l[k]?.getD 0) = true) : l.any p = true := by
  rw [List.any_eq_true]; exact ⟨l[k], List.getElem_mem hk, by simpa [hk] using h⟩
theorem any_none {l : List Int} {p : Int → Bool} (h : ∀ j, j < l.length → p (l[j]?.getD 0) = false) : l.any p = false := by
  rw [List.any_eq_false]; intro x hx
  obtain ⟨j, hj, rfl⟩ := List.getElem_of_mem hx
  have := h j hj
  simpa [hj] using this

set_option maxHeartbeats 1000000 in
theorem indexFunc75 (a : Option Addr) (n c : Nat) (xs : List Int) (w : World) (hx : Ints w a n xs) :
    Calls Try.prog 97 #[.slice a n c, .func (.func 78) #[] #[]] w (IdxPost (xs.any fun n => !withinB n 1 10000) w) := by
  have hn := hx.lt
  go_enter Try.func97, Try.ntmps97
  go_wp2
  go_loopw [8] (fun i wr => ∃ k : Nat, k ≤ n ∧ i = .int .i64 k ∧ Gr w wr ∧ Hid (∀ j, j < k → (!withinB (xs[j]?.getD 0) 1 10000) = false)) (fun i _ => n - (intOf i).toNat)
  case atStart => exact ⟨0, Nat.zero_le _, rfl, Gr.refl _, Lib.hid (by intros; omega)⟩
  case round =>
    obtain ⟨k, hk, rfl, hg, hall⟩ := hrel
    by_cases hlt : k < n
    · obtain ⟨aa, rfl, hab, hac⟩ := (hx.gr hg).at hlt
      cases hb : (!withinB (xs[k]?.getD 0) 1 10000) with
      | true =>
        go_wp2_with (go_at_call 78; refine (check1_any _ _).mono ?_; rintro e w' ⟨rfl, hg2⟩)
        go_ret
        exact ⟨k, rfl, by rw [any_hit (p := fun n => !withinB n 1 10000) (by rw [hx.len]; exact hlt) hb]; simp, hg.trans hg2⟩
      | false =>
        go_wp2_with (go_at_call 78; refine (check1_any _ _).mono ?_; rintro e w' ⟨rfl, hg2⟩)
        go_roundw
        case rel => exact ⟨k + 1, by omega, by go_num, hg.trans hg2, Lib.hid (fun j hj => by
          by_cases e : j = k
          · subst e; exact hb
          · exact hall.out j (by omega))⟩
        case measure => simp [intOf]; omega
    · obtain rfl : k = n := by omega
      go_wp2
      go_ret
      exact ⟨-1, rfl, by rw [any_none (p := fun n => !withinB n 1 10000) (fun j hj => hall.out j (by rw [← hx.len]; exact hj))]; simp, hg⟩

theorem containsFunc75 (a : Option Addr) (n c : Nat) (xs : List Int) (w : World) (hx : Ints w a n xs) :
    Calls Try.prog 74 #[.slice a n c, .func (.func 78) #[] #[]] w fun e w' => e = .returned (.bool (xs.any fun n => !withinB n 1 10000)) ∧ Gr w w' := by
  go_enter Try.func74, Try.ntmps74
  go_wp2_with (go_at_call 97; refine (indexFunc75 _ _ _ _ _ hx).mono ?_; rintro e w' ⟨r, rfl, hr, hg⟩)
  go_ret
  exact ⟨rfl, by assumption⟩

theorem rowOk_long {l : List Int} (h : 3 < l.length) : rowOk l = false := by simp [rowOk, show ¬ l.length ≤ 3 by omega]
theorem rowOk_any {l : List Int} (h : (l.any fun n => !withinB n 1 10000) = true) : rowOk l = false := by unfold rowOk; rw [h]; simp
theorem rowOk_true {l : List Int} (h0 : ¬ 3 < l.length) (h : (l.any fun n => !withinB n 1 10000) = false) : rowOk l = true := by unfold rowOk; rw [h]; simp; omega

set_option maxHeartbeats 2000000 in
theorem check_any (ta ca : Option Addr) (tn tc cn cc : Nat) (f : Fl) (w : World) (hf : FlAt w ta tn ca cn f) :
    Calls Try.prog 36 #[.agg #[.slice ta tn tc, .slice ca cn cc]] w fun e w' => e = .returned (.int .i64 (chkE f)) ∧ Gr w w' := by
  have htn := hf.t.lt
  have hcn := hf.c.lt
  have HT := Lib.hid hf.t.len
  have HC := Lib.hid hf.c.len
  cases hw : withinB (tn : Int) 1 6 with
  | false =>
    go_enter Try.func36, Try.ntmps36
    go_wp2_with (go_at_call 64; refine (within_any _ _ _ _).mono ?_; rintro e w' ⟨rfl, rfl⟩)
    go_ret
    exact ⟨ret_int (chkE_head (.inl (by rw [HT.out]; exact hw))).symm, Gr.alloc _ _⟩
  | true =>
    by_cases h60 : (60 : Int) < cn
    · go_enter Try.func36, Try.ntmps36
      go_wp2_with (go_at_call 64; refine (within_any _ _ _ _).mono ?_; rintro e w' ⟨rfl, rfl⟩)
      go_ret
      exact ⟨ret_int (chkE_head (.inr (by rw [HC.out]; omega))).symm, Gr.alloc _ _⟩
    · go_enter Try.func36, Try.ntmps36
      go_wp2_with (go_at_call 64; refine (within_any _ _ _ _).mono ?_; rintro e w' ⟨rfl, rfl⟩)
      obtain ⟨w1, hw1⟩ : ∃ w1, w.alloc (.cells #[.slice ta tn tc, .slice ca cn cc] 25) = w1 := ⟨_, rfl⟩
      have hg1 : Gr w w1 := by rw [← hw1]; exact Gr.alloc _ _
      have hc0 : w1.cell? ⟨w.heap.size, 0, none⟩ = some (.slice ta tn tc) := by rw [← hw1]; simp
      have hc1 : w1.cell? ⟨w.heap.size, 1, none⟩ = some (.slice ca cn cc) := by rw [← hw1]; simp
      have hs1 : w.heap.size < w1.heap.size := by rw [← hw1]; simp
      rw [hw1]
      clear hw1
      go_loopw [21] (fun i wr => ∃ k : Nat, k ≤ tn ∧ i = .int .i64 k ∧ Gr w1 wr ∧ Hid (∀ j, j < k → rowOk (f.times[j]?.getD []) = true)) (fun i _ => tn - (intOf i).toNat)
      case atStart => exact ⟨0, Nat.zero_le _, rfl, Gr.refl _, Lib.hid (by intros; omega)⟩
      case round =>
        obtain ⟨k, hk, rfl, hg, hall⟩ := hrel
        by_cases hlt : k < tn
        · obtain ⟨tt, ra, rn, rc, rfl, htb, htc, hri⟩ := (hf.t.gr (hg1.trans hg)).at hlt
          have hrl := hri.lt
          have HR := Lib.hid hri.len
          by_cases h3 : (3 : Int) < rn
          · go_wp2_with fail
            go_ret
            exact ⟨ret_int (chkE_row (k := k) (by rw [HT.out]; exact hlt) (rowOk_long (by rw [HR.out]; omega))).symm, hg1.trans hg⟩
          · cases hany : ((f.times[k]?.getD []).any fun n => !withinB n 1 10000) with
            | true =>
              have hcon := containsFunc75 ra rn rc _ wr hri
              rw [hany] at hcon
              have HCON := Lib.hid hcon
              clear hcon
              go_wp2_with (go_at_call 74; refine HCON.out.mono ?_; rintro e w' ⟨rfl, hg2⟩)
              go_ret
              exact ⟨ret_int (chkE_row (k := k) (by rw [HT.out]; exact hlt) (rowOk_any hany)).symm, hg1.trans (hg.trans hg2)⟩
            | false =>
              have hcon := containsFunc75 ra rn rc _ wr hri
              rw [hany] at hcon
              have HCON := Lib.hid hcon
              have hrow : Hid (rowOk (f.times[k]?.getD []) = true) := Lib.hid (rowOk_true (by rw [HR.out]; omega) hany)
              clear hcon hany
              go_wp2_with (go_at_call 74; refine HCON.out.mono ?_; rintro e w' ⟨rfl, hg2⟩)
              go_roundw
              case rel => exact ⟨k + 1, by omega, by go_num, hg.trans hg2, Lib.hid (fun j hj => by
                by_cases e : j = k
                · subst e; exact hrow.out
                · exact hall.out j (by omega))⟩
              case measure => simp [intOf]; omega
        · obtain rfl : k = tn := by omega
          have hcr := (hg.cell (p := ⟨w.heap.size, 1, none⟩) hs1).trans hc1
          have hcr0 := (hg.cell (p := ⟨w.heap.size, 0, none⟩) hs1).trans hc0
          obtain ⟨w2, hw2⟩ : ∃ w2, w2 = wr := ⟨_, rfl⟩
          subst hw2
          have hs2 : w.heap.size < w2.heap.size := Nat.lt_of_lt_of_le hs1 hg.size
          go_wp2_with fail
          go_loopw [36] (fun i wr => ∃ k : Nat, k ≤ cn ∧ i = .int .i64 k ∧ Gr w2 wr ∧ Hid (∀ j, j < k → clOk f.times (f.cl[j]?.getD default) = true)) (fun i _ => cn - (intOf i).toNat)
          case atStart => exact ⟨0, Nat.zero_le _, rfl, Gr.refl _, Lib.hid (by intros; omega)⟩
          case round =>
            obtain ⟨j, hj, rfl, hgj, hallj⟩ := hrel
            by_cases hltj : j < cn
            · obtain ⟨aa, rfl, hab, c0, c1, c2, c3⟩ := (hf.c.gr ((hg1.trans hg).trans hgj)).at hltj
              obtain ⟨x, hx⟩ : ∃ x, f.cl[j]?.getD default = x := ⟨_, rfl⟩
              rw [hx] at c0 c1 c2 c3
              have HX := Lib.hid hx
              clear hx
              have hj1 := (hgj.cell (p := ⟨w.heap.size, 1, none⟩) hs2).trans hcr
              have hj0 := (hgj.cell (p := ⟨w.heap.size, 0, none⟩) hs2).trans hcr0
              have hga := Gr.alloc wr (.cells #[.int .i64 x.a, .int .i64 x.va, .int .i64 x.b, .int .i64 x.vb] 107)
              have hfl := hf.gr (((hg1.trans hg).trans hgj).trans hga)
              have hsr : w.heap.size < wr.heap.size := Nat.lt_of_lt_of_le hs2 hgj.size
              have k0 : (wr.alloc (.cells #[.int .i64 x.a, .int .i64 x.va, .int .i64 x.b, .int .i64 x.vb] 107)).cell? ⟨w.heap.size, 0, none⟩ = some (.slice ta k tc) := (hga.cell (p := ⟨w.heap.size, 0, none⟩) hsr).trans hj0
              have k1 : (wr.alloc (.cells #[.int .i64 x.a, .int .i64 x.va, .int .i64 x.b, .int .i64 x.vb] 107)).cell? ⟨w.heap.size, 1, none⟩ = some (.slice (some aa) cn cc) := (hga.cell (p := ⟨w.heap.size, 1, none⟩) hsr).trans hj1
              have x2 : (wr.alloc (.cells #[.int .i64 x.a, .int .i64 x.va, .int .i64 x.b, .int .i64 x.vb] 107)).cell? ⟨wr.heap.size, 2, none⟩ = some (.int .i64 x.b) := by simp
              have x3 : (wr.alloc (.cells #[.int .i64 x.a, .int .i64 x.va, .int .i64 x.b, .int .i64 x.vb] 107)).cell? ⟨wr.heap.size, 3, none⟩ = some (.int .i64 x.vb) := by simp
              have sz : wr.heap.size < (wr.alloc (.cells #[.int .i64 x.a, .int .i64 x.va, .int .i64 x.b, .int .i64 x.vb] 107)).heap.size := by simp
              have szw : w.heap.size < (wr.alloc (.cells #[.int .i64 x.a, .int .i64 x.va, .int .i64 x.b, .int .i64 x.vb] 107)).heap.size := Nat.lt_trans hsr sz
              have gall := ((hg1.trans hg).trans hgj).trans hga
              have K0 := Lib.hid k0
              have K1 := Lib.hid k1
              have X2 := Lib.hid x2
              have X3 := Lib.hid x3
              have SZ := Lib.hid sz
              have SZW := Lib.hid szw
              clear k0 k1 x2 x3 sz szw
              have fin : ∀ b, clOk f.times x = b → clOk f.times (f.cl[j]?.getD default) = b := fun b hb => by rw [HX.out]; exact hb
              have FIN := Lib.hid fin
              clear fin
              cases hab' : (x.a == x.b) with
              | true =>
                go_wp2_with (go_at_call 79; refine (version_any _ _ _ _ _ _ f _ _ _ (by first | exact hfl | exact hfl.gr (by assumption))).mono ?_; rintro e w3 ⟨rfl, hg3⟩)
                go_ret
                exact ⟨ret_int (chkE_cl (k := j) (by rw [HC.out]; exact hltj) (FIN.out false (by simp only [clOk, hab']; rfl))).symm, gall⟩
              | false =>
                cases hva : verB f.times x.a x.va with
                | false =>
                  go_wp2_with (go_at_call 79; refine (version_any _ _ _ _ _ _ f _ _ _ (by first | exact hfl | exact hfl.gr (by assumption))).mono ?_; rintro e w3 ⟨rfl, hg3⟩; have g0 := (hg3.cell (p := ⟨w.heap.size, 0, none⟩) SZW.out).trans K0.out; have g1 := (hg3.cell (p := ⟨w.heap.size, 1, none⟩) SZW.out).trans K1.out; have g2 := (hg3.cell (p := ⟨wr.heap.size, 2, none⟩) SZ.out).trans X2.out; have g3 := (hg3.cell (p := ⟨wr.heap.size, 3, none⟩) SZ.out).trans X3.out)
                  go_ret
                  exact ⟨ret_int (chkE_cl (k := j) (by rw [HC.out]; exact hltj) (FIN.out false (by simp only [clOk, hab', hva]; rfl))).symm, gall.trans (by assumption)⟩
                | true =>
                  cases hvb : verB f.times x.b x.vb with
                  | false =>
                    go_wp2_with (go_at_call 79; refine (version_any _ _ _ _ _ _ f _ _ _ (by first | exact hfl | exact hfl.gr (by assumption))).mono ?_; rintro e w3 ⟨rfl, hg3⟩; (try (have g0 := (hg3.cell (p := ⟨w.heap.size, 0, none⟩) SZW.out).trans K0.out; have g1 := (hg3.cell (p := ⟨w.heap.size, 1, none⟩) SZW.out).trans K1.out; have g2 := (hg3.cell (p := ⟨wr.heap.size, 2, none⟩) SZ.out).trans X2.out; have g3 := (hg3.cell (p := ⟨wr.heap.size, 3, none⟩) SZ.out).trans X3.out)))
                    go_ret
                    exact ⟨ret_int (chkE_cl (k := j) (by rw [HC.out]; exact hltj) (FIN.out false (by simp only [clOk, hvb, Bool.and_false]))).symm, (gall.trans (by assumption)).trans (by assumption)⟩
                  | true =>
                    go_wp2_with (go_at_call 79; refine (version_any _ _ _ _ _ _ f _ _ _ (by first | exact hfl | exact hfl.gr (by assumption))).mono ?_; rintro e w3 ⟨rfl, hg3⟩; (try (have g0 := (hg3.cell (p := ⟨w.heap.size, 0, none⟩) SZW.out).trans K0.out; have g1 := (hg3.cell (p := ⟨w.heap.size, 1, none⟩) SZW.out).trans K1.out; have g2 := (hg3.cell (p := ⟨wr.heap.size, 2, none⟩) SZ.out).trans X2.out; have g3 := (hg3.cell (p := ⟨wr.heap.size, 3, none⟩) SZ.out).trans X3.out)))
                    go_roundw
                    case rel => exact ⟨j + 1, by omega, by go_num, (hgj.trans hga).trans (Gr.trans (by assumption) (by assumption)), Lib.hid (fun i hi => by
                      by_cases e : i = j
                      · subst e; exact FIN.out true (by simp only [clOk, hab', hva, hvb]; rfl)
                      · exact hallj.out i (by omega))⟩
                    case measure => simp [intOf]; omega
            · obtain rfl : j = cn := by omega
              go_wp2_with fail
              go_ret
              exact ⟨ret_int (chkE_ok (by rw [HT.out]; exact hw) (by rw [HC.out]; omega) (fun i hi => hall.out i (by rw [← HT.out]; exact hi)) (fun i hi => hallj.out i (by rw [← HC.out]; exact hi))).symm, (hg1.trans hg).trans hgj⟩
end
end Go.Proofs.Ytaidcocjcidggaa
