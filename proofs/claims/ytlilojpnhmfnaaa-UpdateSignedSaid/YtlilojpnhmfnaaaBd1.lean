/- Several texts of this claim in one file. (1) Words for memory that the contracts of this seat share: growth of the world, slices of numbers, lists of lists, clashes. Nothing of the program is proved here. (2) Arguments that came in: a fleet, a state, a trip, read off their data. (3) An argument that came in: a journey, read off its data. (4) Plain words for chapter 11: times of steps, valid fleets and states, clashes. No program in sight. (5) Contracts of the functions that compare slices of numbers: slices.Equal, sameInts, same, above, within. (6) Contracts of the clashes: clash, works, and the reference clash; version. (7) Plain words: when a fleet and a state are valid, as tests. (8) Contract of update.Check. (9) Contracts: checkStates, begin; the reference state. (10) Contract: the reference Check. (11) Contracts: tags, the program's and the reference's. -/
import Derived.WalkKit
import Derived.Deep.Draws
import Derived.Lib.Hide
import Derived.Test.YtlilojpnhmfnaaaChecked
import Derived.Deep.Slices
import Derived.Deep.Fields
import Derived.ChangeSame
import Derived.Lib.SmallJoins
import Derived.SizedLaws
import Derived.ProofKit
import Derived.Test.YtlilojpnhmfnaaaProg
import Derived.Deep.QuietTactic
import Derived.BigQuiet
import Derived.Outline
import Derived.Deep.RegionHeld3
import Derived.IntWalk
namespace Go.Proofs.Ytlilojpnhmfnaaa
section
open Go.RowKit

/-- The world has only grown: whatever lay lies as it lay. -/
def Gr (w w' : World) : Prop := Below w.heap.size w w'

theorem Gr.refl (w : World) : Gr w w := Below.refl _ _
theorem Gr.trans {a b c : World} (h : Gr a b) (k : Gr b c) : Gr a c := Below.trans h (Below.mono k (Below.size h))
theorem Gr.drewN (w : World) (n : Nat) : Gr w (w.drewN n) := ⟨rfl, rfl, rfl, Nat.le_refl _, fun _ _ => rfl⟩
theorem Gr.drew (w : World) : Gr w w.drew := Below.drew (Below.refl _ _)
theorem Gr.alloc (w : World) (o : Obj) : Gr w (w.alloc o) := Below.alloc (Below.refl _ _) (Nat.le_refl _) o
theorem Gr.size {a b : World} (h : Gr a b) : a.heap.size ≤ b.heap.size := Below.size h
theorem Gr.below {a b : World} (h : Gr a b) : Below a.heap.size a b := h
theorem Gr.cell {a b : World} (h : Gr a b) {p : Addr} (hp : p.block < a.heap.size) : b.cell? p = a.cell? p := Below.cell h hp
theorem Gr.frozen {a b : World} (h : Gr a b) {p : Addr} (hp : p.block < a.heap.size) : b.frozen? p = a.frozen? p := Below.frozen h hp
theorem Gr.setCell {a b : World} (h : Gr a b) {p : Addr} (hp : a.heap.size ≤ p.block) (u : Value) : Gr a (b.setCell p u) := Below.setCell h hp u
theorem Gr.allocR {a b : World} (h : Gr a b) (o : Obj) : Gr a (b.alloc o) := h.trans (Gr.alloc _ _)
theorem Gr.drewR {a b : World} (h : Gr a b) : Gr a b.drew := h.trans (Gr.drew _)
theorem Gr.drewNR {a b : World} (h : Gr a b) (n : Nat) : Gr a (b.drewN n) := h.trans (Gr.drewN _ _)

theorem add_block (a : Addr) (n : Nat) : (a.add n).block = a.block := by unfold Addr.add; split <;> rfl

/-- The slice value with address a and length n holds the numbers xs. -/
def Ints (w : World) (a : Option Addr) (n : Nat) (xs : List Int) : Prop :=
  xs.length = n ∧ n < 1152921504606846976 ∧ ∀ j, j < n → ∃ ad, a = some ad ∧ ad.block < w.heap.size ∧ w.cell? (ad.add j) = some (.int .i64 (xs[j]?.getD 0))

theorem Ints.len {w : World} {a : Option Addr} {n : Nat} {xs : List Int} (h : Ints w a n xs) : xs.length = n := h.1
theorem Ints.lt {w : World} {a : Option Addr} {n : Nat} {xs : List Int} (h : Ints w a n xs) : n < 1152921504606846976 := h.2.1
theorem Ints.at {w : World} {a : Option Addr} {n : Nat} {xs : List Int} (h : Ints w a n xs) {j : Nat} (hj : j < n) : ∃ ad, a = some ad ∧ ad.block < w.heap.size ∧ w.cell? (ad.add j) = some (.int .i64 (xs[j]?.getD 0)) := h.2.2 j hj
theorem Ints.gr {w w' : World} {a : Option Addr} {n : Nat} {xs : List Int} (h : Ints w a n xs) (g : Gr w w') : Ints w' a n xs :=
  ⟨h.1, h.2.1, fun j hj => by
    obtain ⟨ad, e, hb, hc⟩ := h.2.2 j hj
    exact ⟨ad, e, Nat.lt_of_lt_of_le hb g.size, (g.cell (by rw [add_block]; exact hb)).trans hc⟩⟩

/-- The slice value with address a and length n holds slices that hold the lists L. -/
def RowsAt (w : World) (a : Option Addr) (n : Nat) (L : List (List Int)) : Prop :=
  L.length = n ∧ n < 1152921504606846976 ∧ ∀ j, j < n → ∃ ad a' n' c', a = some ad ∧ ad.block < w.heap.size ∧ w.cell? (ad.add j) = some (.slice a' n' c') ∧ Ints w a' n' (L[j]?.getD [])

theorem RowsAt.len {w : World} {a : Option Addr} {n : Nat} {L : List (List Int)} (h : RowsAt w a n L) : L.length = n := h.1
theorem RowsAt.lt {w : World} {a : Option Addr} {n : Nat} {L : List (List Int)} (h : RowsAt w a n L) : n < 1152921504606846976 := h.2.1
theorem RowsAt.at {w : World} {a : Option Addr} {n : Nat} {L : List (List Int)} (h : RowsAt w a n L) {j : Nat} (hj : j < n) :
    ∃ ad a' n' c', a = some ad ∧ ad.block < w.heap.size ∧ w.cell? (ad.add j) = some (.slice a' n' c') ∧ Ints w a' n' (L[j]?.getD []) := h.2.2 j hj
theorem RowsAt.gr {w w' : World} {a : Option Addr} {n : Nat} {L : List (List Int)} (h : RowsAt w a n L) (g : Gr w w') : RowsAt w' a n L :=
  ⟨h.1, h.2.1, fun j hj => by
    obtain ⟨ad, a', n', c', e, hb, hc, hi⟩ := h.2.2 j hj
    exact ⟨ad, a', n', c', e, Nat.lt_of_lt_of_le hb g.size, (g.cell (by rw [add_block]; exact hb)).trans hc, hi.gr g⟩⟩

/-- A clash: A, VersionA, B, VersionB. -/
structure Cl where
  a : Int
  va : Int
  b : Int
  vb : Int
instance : Inhabited Cl := ⟨⟨0, 0, 0, 0⟩⟩

def ClAt (w : World) (a : Option Addr) (n : Nat) (C : List Cl) : Prop :=
  C.length = n ∧ n < 1152921504606846976 ∧ ∀ j, j < n → ∃ ad, a = some ad ∧ ad.block < w.heap.size ∧
    w.cell? (ad.add (j * 4)) = some (.int .i64 (C[j]?.getD default).a) ∧ w.cell? ⟨(ad.add (j * 4)).block, (ad.add (j * 4)).off + 1, none⟩ = some (.int .i64 (C[j]?.getD default).va) ∧
    w.cell? ⟨(ad.add (j * 4)).block, (ad.add (j * 4)).off + 2, none⟩ = some (.int .i64 (C[j]?.getD default).b) ∧ w.cell? ⟨(ad.add (j * 4)).block, (ad.add (j * 4)).off + 3, none⟩ = some (.int .i64 (C[j]?.getD default).vb)

theorem ClAt.len {w : World} {a : Option Addr} {n : Nat} {C : List Cl} (h : ClAt w a n C) : C.length = n := h.1
theorem ClAt.lt {w : World} {a : Option Addr} {n : Nat} {C : List Cl} (h : ClAt w a n C) : n < 1152921504606846976 := h.2.1
theorem ClAt.at {w : World} {a : Option Addr} {n : Nat} {C : List Cl} (h : ClAt w a n C) {j : Nat} (hj : j < n) : ∃ ad, a = some ad ∧ ad.block < w.heap.size ∧
    w.cell? (ad.add (j * 4)) = some (.int .i64 (C[j]?.getD default).a) ∧ w.cell? ⟨(ad.add (j * 4)).block, (ad.add (j * 4)).off + 1, none⟩ = some (.int .i64 (C[j]?.getD default).va) ∧
    w.cell? ⟨(ad.add (j * 4)).block, (ad.add (j * 4)).off + 2, none⟩ = some (.int .i64 (C[j]?.getD default).b) ∧ w.cell? ⟨(ad.add (j * 4)).block, (ad.add (j * 4)).off + 3, none⟩ = some (.int .i64 (C[j]?.getD default).vb) := h.2.2 j hj
theorem ClAt.gr {w w' : World} {a : Option Addr} {n : Nat} {C : List Cl} (h : ClAt w a n C) (g : Gr w w') : ClAt w' a n C :=
  ⟨h.1, h.2.1, fun j hj => by
    obtain ⟨ad, e, hb, h0, h1, h2, h3⟩ := h.2.2 j hj
    exact ⟨ad, e, Nat.lt_of_lt_of_le hb g.size, (g.cell (by rw [add_block]; exact hb)).trans h0, (g.cell (by show (ad.add _).block < _; rw [add_block]; exact hb)).trans h1,
      (g.cell (by show (ad.add _).block < _; rw [add_block]; exact hb)).trans h2, (g.cell (by show (ad.add _).block < _; rw [add_block]; exact hb)).trans h3⟩⟩

/-- A fleet as data. -/
structure Fl where
  times : List (List Int)
  cl : List Cl

/-- The fleet value, its two slices, in memory. -/
structure FlAt (w : World) (ta : Option Addr) (tn : Nat) (ca : Option Addr) (cn : Nat) (f : Fl) : Prop where
  t : RowsAt w ta tn f.times
  c : ClAt w ca cn f.cl

theorem FlAt.gr {w w' : World} {ta : Option Addr} {tn : Nat} {ca : Option Addr} {cn : Nat} {f : Fl} (h : FlAt w ta tn ca cn f) (g : Gr w w') : FlAt w' ta tn ca cn f := ⟨h.t.gr g, h.c.gr g⟩

theorem ret_int {k : IntKind} {a b : Int} (h : a = b) : Ending.returned (.int k a) = .returned (.int k b) := by rw [h]
theorem ret_bool {a b : Bool} (h : a = b) : Ending.returned (.bool a) = .returned (.bool b) := by rw [h]
end
section
open Go.ChangeShapes Go.WideShapes Go.RowKit Go.Deep Go.Joins

/-- nothing in the datum passes the reach -/
def Wt {H : Type} (t : TypeId) (d : DataW H) : Prop := ∀ x ∈ d.weights Try.prog t, x ≤ reachBytes

theorem Wt.each {H : Type} {ts : List TypeId} {ds : List (DataW H)} (h : (DataW.weightsEach Try.prog ts ds).all (· ≤ reachBytes) = true) {j : Nat} {t : TypeId} {d : DataW H} (ht : ts[j]? = some t) (hd : ds[j]? = some d) : Wt t d := fun x hx => by
  have := List.all_eq_true.1 h _ (DataW.weights_mem_each ht hd x hx)
  simpa using this
theorem Wt.field {H : Type} {t : TypeId} {fs : Array Field} {parts : List (DataW H)} (hs : Try.prog.underlying t = some (.struct fs)) (h : Wt t (.agg parts)) {j : Nat} {ft : TypeId} {d : DataW H} (ht : (fs.toList.map (·.type))[j]? = some ft) (hd : parts[j]? = some d) : Wt ft d := fun x hx =>
  h x (by simp only [DataW.weights, hs]; exact DataW.weights_mem_each ht hd x hx)
theorem weights_all {H : Type} {e : TypeId} : ∀ {l : List (DataW H)} {d : DataW H}, d ∈ l → ∀ x ∈ d.weights Try.prog e, x ∈ DataW.weightsAll Try.prog e l := by
  intro l
  induction l with
  | nil => intro d h; simp at h
  | cons a l ih =>
    intro d h x hx
    simp only [DataW.weightsAll, List.mem_append]
    rcases List.mem_cons.1 h with rfl | h
    · exact .inl hx
    · exact .inr (ih h x hx)
theorem Wt.elem {H : Type} {t e : TypeId} {elems spare : List (DataW H)} (hs : Try.prog.underlying t = some (.slice e)) (h : Wt t (.slice elems spare)) {d : DataW H} (hd : d ∈ elems) : Wt e d := fun x hx =>
  h x (by simp only [DataW.weights, hs, List.mem_cons, List.mem_append]; exact .inr (.inl (weights_all hd x hx)))
theorem Wt.len {H : Type} {t e : TypeId} {elems spare : List (DataW H)} (hs : Try.prog.underlying t = some (.slice e)) (h : Wt t (.slice elems spare)) : (elems.length + spare.length) * Try.prog.bytesOf e ≤ reachBytes :=
  h _ (by simp only [DataW.weights, hs, List.mem_cons, true_or])

section
variable {H : Type} {enc : TypeId × Value → H} {w : World} {base : Nat} {spare : Nat → Bool} {held : Bool}

theorem cell_blk {w : World} {p : Addr} {v : Value} (h : w.cell? p = some v) : p.block < w.heap.size := by
  unfold World.cell? at h
  cases hb : w.heap[p.block]? with
  | none => rw [hb] at h; simp at h
  | some o => exact (Array.getElem?_eq_some_iff.1 hb).1

theorem Try.cells3 : Try.prog.cellsOf 3 = 1 := by kernel_rfl
theorem Try.bytes3 : Try.prog.bytesOf 3 = 8 := by kernel_rfl
theorem Try.bytes26 : Try.prog.bytesOf 26 = 24 := by kernel_rfl
theorem Try.bytes70 : Try.prog.bytesOf 70 = 32 := by kernel_rfl
theorem Try.cells26 : Try.prog.cellsOf 26 = 1 := by kernel_rfl
theorem Try.cells70 : Try.prog.cellsOf 70 = 4 := by kernel_rfl

/-- a slice of numbers -/
theorem open_st {fuel : Nat} {v : Value} {x : DataW H × List MemPlace} (h : DataW.trod enc Try.prog w base spare held fuel 26 [v] = some x) (hw : Wt 26 x.1) : ∃ a n c xs, v = .slice a n c ∧ Ints w a n xs := by
  rcases open_ints Try.underlying26 Try.underlying3 Try.cells3 h with ⟨hcs, _⟩ | ⟨a, len, cap, zs, hcs, _, hl, hm, hz, hx, hcell, hwz⟩
  · simp at hcs
    exact ⟨none, 0, 0, [], hcs, rfl, by omega, fun j hj => by omega⟩
  · simp at hcs
    subst hcs
    have hlz : len ≤ zs.length := by rw [hz]; split <;> omega
    have hb := by
      have h1 := hw
      rw [hx] at h1
      have := h1.len Try.underlying26
      rw [Try.bytes3] at this
      simp only [lits, List.length_map, List.length_take, List.length_drop, reachBytes] at this
      exact this
    refine ⟨some a, len, cap, zs.take len, rfl, by simp; omega, by omega, fun j hj => ?_⟩
    have hc := hcell j (by omega)
    refine ⟨a, rfl, ?_, ?_⟩
    · have := cell_blk hc; rwa [add_block] at this
    · rw [hc]; simp [hj, List.getD_eq_getElem?_getD]

/-- choose a list -/
theorem list_of {α : Type} {P : Nat → α → Prop} (d : α) : ∀ n, (∀ j, j < n → ∃ x, P j x) → ∃ L : List α, L.length = n ∧ ∀ j, j < n → P j (L[j]?.getD d) := by
  intro n
  induction n with
  | zero => intro _; exact ⟨[], rfl, fun j hj => by omega⟩
  | succ n ih =>
    intro h
    obtain ⟨L, hl, hL⟩ := ih (fun j hj => h j (by omega))
    obtain ⟨x, hx⟩ := h n (by omega)
    refine ⟨L ++ [x], by simp [hl], fun j hj => ?_⟩
    by_cases e : j = n
    · subst e; rw [← hl]; simpa [hl] using hx
    · rw [List.getElem?_append_left (by omega)]; exact hL j (by omega)

/-- a slice of slices of numbers -/
theorem open_rs {fuel : Nat} {v : Value} {x : DataW H × List MemPlace} (h : DataW.trod enc Try.prog w base spare held fuel 22 [v] = some x) (hw : Wt 22 x.1) : ∃ a n c L, v = .slice a n c ∧ RowsAt w a n L := by
  rcases open_slice Try.underlying22 h with ⟨hcs, _⟩ | ⟨a, len, cap, m, n, D, Pl, hcs, hb, hl, hm, hmm, hx, hi⟩
  · simp at hcs
    exact ⟨none, 0, 0, [], hcs, rfl, by omega, fun j hj => by omega⟩
  · simp at hcs
    subst hcs
    have hlm : len ≤ m := by rw [hmm]; split <;> omega
    have hw1 := hw
    rw [hx] at hw1
    have hlen := hw1.len Try.underlying22
    rw [Try.bytes26] at hlen
    simp only [List.length_map, List.length_range, reachBytes] at hlen
    obtain ⟨L, hL1, hL2⟩ := list_of (P := fun j xs => ∃ a' n' c', w.cell? (a.add j) = some (.slice a' n' c') ∧ Ints w a' n' xs) [] len (fun j hj => by
      obtain ⟨cs', hc, ht'⟩ := hi j (by omega)
      rw [Try.cells26, Nat.mul_one] at hc
      obtain ⟨_, hcl, hat⟩ := World.cells?_some hc
      match cs', hcl with
      | [v0], _ =>
        have hcell := hat 0 (by omega)
        have hwj : Wt 26 (D j) := hw1.elem Try.underlying22 (List.mem_map.2 ⟨j, List.mem_range.2 hj, rfl⟩)
        obtain ⟨a', n', c', xs, rfl, hI⟩ := open_st ht' hwj
        refine ⟨xs, a', n', c', ?_, hI⟩
        have e : (a.add j).add 0 = a.add j := by rw [Go.Deep.add_add]; rfl
        rw [e] at hcell
        simpa using hcell)
    refine ⟨some a, len, cap, L, rfl, hL1, by omega, fun j hj => ?_⟩
    obtain ⟨a', n', c', h1, h2⟩ := hL2 j hj
    exact ⟨a, a', n', c', rfl, by have := cell_blk h1; rwa [add_block] at this, h1, h2⟩

theorem four {α : Type} {l : List α} (h : l.length = 4) : ∃ a b c d, l = [a, b, c, d] := by
  match l, h with
  | [a, b, c, d], _ => exact ⟨a, b, c, d, rfl⟩

/-- a slice of clashes -/
theorem open_cl {fuel : Nat} {v : Value} {x : DataW H × List MemPlace} (h : DataW.trod enc Try.prog w base spare held fuel 23 [v] = some x) (hw : Wt 23 x.1) : ∃ a n c C, v = .slice a n c ∧ ClAt w a n C := by
  rcases open_slice Try.underlying23 h with ⟨hcs, _⟩ | ⟨a, len, cap, m, n, D, Pl, hcs, hb, hl, hm, hmm, hx, hi⟩
  · simp at hcs
    exact ⟨none, 0, 0, [], hcs, rfl, by omega, fun j hj => by omega⟩
  · simp at hcs
    subst hcs
    have hlm : len ≤ m := by rw [hmm]; split <;> omega
    have hw1 := hw
    rw [hx] at hw1
    have hlen := hw1.len Try.underlying23
    rw [Try.bytes70] at hlen
    simp only [List.length_map, List.length_range, reachBytes] at hlen
    obtain ⟨C, hC1, hC2⟩ := list_of (P := fun j (c : Cl) => w.cell? (a.add (j * 4)) = some (.int .i64 c.a) ∧ w.cell? ((a.add (j * 4)).add 1) = some (.int .i64 c.va) ∧ w.cell? ((a.add (j * 4)).add 2) = some (.int .i64 c.b) ∧ w.cell? ((a.add (j * 4)).add 3) = some (.int .i64 c.vb)) default len (fun j hj => by
      obtain ⟨cs', hc, ht'⟩ := hi j (by omega)
      rw [Try.cells70] at hc
      obtain ⟨_, hcl, hat⟩ := World.cells?_some hc
      obtain ⟨ys, n', hn', hy, hlen', hyl, hf⟩ := DataW.trod_struct Try.underlying70 ht'
      have hyl4 : ys.length = 4 := by simpa using hyl
      obtain ⟨c0, c1, c2, c3, rfl⟩ := four hcl
      obtain ⟨y0, y1, y2, y3, rfl⟩ := four hyl4
      · have f0 := hf 0 _ rfl
        have f1 := hf 1 _ rfl
        have f2 := hf 2 _ rfl
        have f3 := hf 3 _ rfl
        simp [Try.cells3] at f0 f1 f2 f3
        obtain ⟨i0, e0, _⟩ := DataW.trod_int Try.underlying3 f0
        obtain ⟨i1, e1, _⟩ := DataW.trod_int Try.underlying3 f1
        obtain ⟨i2, e2, _⟩ := DataW.trod_int Try.underlying3 f2
        obtain ⟨i3, e3, _⟩ := DataW.trod_int Try.underlying3 f3
        simp at e0 e1 e2 e3
        subst e0 e1 e2 e3
        exact ⟨⟨i0, i1, i2, i3⟩, hat 0 (by omega), hat 1 (by omega), hat 2 (by omega), hat 3 (by omega)⟩)
    refine ⟨some a, len, cap, C, rfl, hC1, by omega, fun j hj => ?_⟩
    obtain ⟨h0, h1, h2, h3⟩ := hC2 j hj
    exact ⟨a, rfl, by have := cell_blk h0; rwa [add_block] at this, h0, h1, h2, h3⟩

set_option maxRecDepth 100000 in
/-- a fleet -/
theorem open_fl {r : Reach} {b0 : Nat} {v : Value} {d : DataW H} {p : List MemPlace} (hv : Value.okWide Try.prog w r b0 25 v) (h : DataW.Trod enc Try.prog w base spare held 25 v d p) (hw : Wt 25 d) :
    ∃ ta tn tc ca cn cc f, v = .agg #[.slice ta tn tc, .slice ca cn cc] ∧ FlAt w ta tn ca cn f := by
  obtain ⟨v0, v1, y0, y1, n, rfl, rfl, _, h0, h1⟩ := open_agg2 Try.underlying25 (by kernel_rfl) (by kernel_rfl) hv h
  obtain ⟨ta, tn, tc, T, rfl, hT⟩ := open_rs h0 (hw.field Try.underlying25 (j := 0) (ft := 22) (by simp) (by simp))
  obtain ⟨ca, cn, cc, C, rfl, hC⟩ := open_cl h1 (hw.field Try.underlying25 (j := 1) (ft := 23) (by simp) (by simp))
  exact ⟨ta, tn, tc, ca, cn, cc, ⟨T, C⟩, rfl, hT, hC⟩

set_option maxRecDepth 100000 in
/-- a trip -/
theorem open_tr {r : Reach} {b0 : Nat} {v : Value} {d : DataW H} {p : List MemPlace} (hv : Value.okWide Try.prog w r b0 28 v) (h : DataW.Trod enc Try.prog w base spare held 28 v d p) (hw : Wt 28 d) :
    ∃ a n c b m k xs ys, v = .agg #[.slice a n c, .slice b m k] ∧ Ints w a n xs ∧ Ints w b m ys := by
  obtain ⟨v0, v1, y0, y1, n, rfl, rfl, _, h0, h1⟩ := open_agg2 Try.underlying28 (by kernel_rfl) (by kernel_rfl) hv h
  obtain ⟨a, n, c, xs, rfl, hx⟩ := open_st h0 (hw.field Try.underlying28 (j := 0) (ft := 26) (by simp) (by simp))
  obtain ⟨b, m, k, ys, rfl, hy⟩ := open_st h1 (hw.field Try.underlying28 (j := 1) (ft := 26) (by simp) (by simp))
  exact ⟨a, n, c, b, m, k, xs, ys, rfl, hx, hy⟩

set_option maxRecDepth 100000 in
/-- a packet -/
theorem open_pk {r : Reach} {b0 : Nat} {v : Value} {d : DataW H} {p : List MemPlace} (hv : Value.okWide Try.prog w r b0 46 v) (h : DataW.Trod enc Try.prog w base spare held 46 v d p) (hw : Wt 46 d) :
    ∃ c n data tg, v = .agg #[.int .i64 c, .int .i64 n, .string data, .int .i64 tg] ∧ data.size < 1152921504606846976 := by
  obtain ⟨v0, v1, v2, v3, y0, y1, y2, y3, n, rfl, rfl, _, h0, h1, h2, h3⟩ := open_agg4 Try.underlying46 (by kernel_rfl) (by kernel_rfl) hv h
  obtain ⟨i0, e0, _⟩ := DataW.trod_int Try.underlying3 h0
  obtain ⟨i1, e1, _⟩ := DataW.trod_int Try.underlying3 h1
  obtain ⟨s2, e2, hx2, _⟩ := DataW.trod_string Try.underlying9 h2
  obtain ⟨i3, e3, _⟩ := DataW.trod_int Try.underlying3 h3
  simp at e0 e1 e2 e3
  subst e0 e1 e2 e3
  refine ⟨i0, i1, s2, i3, rfl, ?_⟩
  have hw2 : Wt 9 y2.1 := hw.field Try.underlying46 (j := 2) (ft := 9) (by simp) (by simp)
  rw [hx2] at hw2
  have := hw2 s2.data.toList.length (by simp [DataW.weights])
  simp [reachBytes] at this
  omega
end
end
section
open Go.ChangeShapes Go.WideShapes Go.RowKit Go.Deep Go.Joins
section
variable {H : Type} {enc : TypeId × Value → H} {w : World} {base : Nat} {spare : Nat → Bool} {held : Bool}

theorem five {α : Type} {l : List α} (h : l.length = 5) : ∃ a b c d e, l = [a, b, c, d, e] := by
  match l, h with
  | [a, b, c, d, e], _ => exact ⟨a, b, c, d, e, rfl⟩

theorem Try.cells41 : Try.prog.cellsOf 41 = 5 := by kernel_rfl
theorem Try.cells22 : Try.prog.cellsOf 22 = 1 := by kernel_rfl

set_option maxRecDepth 100000 in
/-- a journey -/
theorem open_jn {r : Reach} {b0 : Nat} {v : Value} {d : DataW H} {p : List MemPlace} (hv : Value.okWide Try.prog w r b0 41 v) (h : DataW.Trod enc Try.prog w base spare held 41 v d p) (hw : Wt 41 d) :
    ∃ fa fn fc fs pa pn pc Q bu dn ma mn mc ms, v = .agg #[.slice fa fn fc, .slice pa pn pc, .int .i64 bu, .int .i64 dn, .slice ma mn mc] ∧ Ints w fa fn fs ∧ RowsAt w pa pn Q ∧ Ints w ma mn ms := by
  obtain ⟨cs, rfl, hsz⟩ := okWide_struct Try.underlying41 hv
  obtain ⟨l⟩ := cs
  obtain ⟨v0, v1, v2, v3, v4, rfl⟩ := five (hsz.trans Try.cells41)
  obtain ⟨fuel, hf⟩ := h
  obtain ⟨ys, n, _, hy, _, hlen, hg⟩ := DataW.trod_struct Try.underlying41 hf
  obtain ⟨y0, y1, y2, y3, y4, rfl⟩ := five (by simpa using hlen)
  have f0 := hg 0 _ rfl
  have f1 := hg 1 _ rfl
  have f2 := hg 2 _ rfl
  have f3 := hg 3 _ rfl
  have f4 := hg 4 _ rfl
  simp [Value.cells, Try.cells3, Try.cells26, Try.cells22] at f0 f1 f2 f3 f4
  simp only [Prod.mk.injEq] at hy
  have hd : d = .agg [y0.1, y1.1, y2.1, y3.1, y4.1] := by simpa using hy.1
  subst hd
  obtain ⟨fa, fn, fc, fs, rfl, hfs⟩ := open_st f0 (hw.field Try.underlying41 (j := 0) (ft := 26) (by simp) (by simp))
  obtain ⟨pa, pn, pc, Q, rfl, hQ⟩ := open_rs f1 (hw.field Try.underlying41 (j := 1) (ft := 22) (by simp) (by simp))
  obtain ⟨i2, e2, _⟩ := DataW.trod_int Try.underlying3 f2
  obtain ⟨i3, e3, _⟩ := DataW.trod_int Try.underlying3 f3
  obtain ⟨ma, mn, mc, ms, rfl, hms⟩ := open_st f4 (hw.field Try.underlying41 (j := 4) (ft := 26) (by simp) (by simp))
  simp at e2 e3
  subst e2 e3
  exact ⟨fa, fn, fc, fs, pa, pn, pc, Q, i2, i3, ma, mn, mc, ms, rfl, hfs, hQ, hms⟩
/-- a slice of slices of numbers, with its capacity -/
theorem open_rsc {fuel : Nat} {v : Value} {x : DataW H × List MemPlace} (h : DataW.trod enc Try.prog w base spare held fuel 22 [v] = some x) (hw : Wt 22 x.1) : ∃ a n c L, v = .slice a n c ∧ RowsAt w a n L ∧ n ≤ c := by
  obtain ⟨a, n, c, L, rfl, hL⟩ := open_rs h hw
  refine ⟨a, n, c, L, rfl, hL, ?_⟩
  rcases open_slice Try.underlying22 h with ⟨hcs, _⟩ | ⟨a', len, cap, m, k, D, Pl, hcs, _, hl, _⟩
  · simp at hcs; omega
  · simp at hcs; omega

set_option maxRecDepth 100000 in
/-- a journey, with the capacity of its plan -/
theorem open_jn2 {r : Reach} {b0 : Nat} {v : Value} {d : DataW H} {p : List MemPlace} (hv : Value.okWide Try.prog w r b0 41 v) (h : DataW.Trod enc Try.prog w base spare held 41 v d p) (hw : Wt 41 d) :
    ∃ fa fn fc fs pa pn pc Q bu dn ma mn mc ms, v = .agg #[.slice fa fn fc, .slice pa pn pc, .int .i64 bu, .int .i64 dn, .slice ma mn mc] ∧ Ints w fa fn fs ∧ RowsAt w pa pn Q ∧ Ints w ma mn ms ∧ pn ≤ pc := by
  obtain ⟨cs, rfl, hsz⟩ := okWide_struct Try.underlying41 hv
  obtain ⟨l⟩ := cs
  obtain ⟨v0, v1, v2, v3, v4, rfl⟩ := five (hsz.trans Try.cells41)
  obtain ⟨fuel, hf⟩ := h
  obtain ⟨ys, n, _, hy, _, hlen, hg⟩ := DataW.trod_struct Try.underlying41 hf
  obtain ⟨y0, y1, y2, y3, y4, rfl⟩ := five (by simpa using hlen)
  have f0 := hg 0 _ rfl
  have f1 := hg 1 _ rfl
  have f2 := hg 2 _ rfl
  have f3 := hg 3 _ rfl
  have f4 := hg 4 _ rfl
  simp [Value.cells, Try.cells3, Try.cells26, Try.cells22] at f0 f1 f2 f3 f4
  simp only [Prod.mk.injEq] at hy
  have hd : d = .agg [y0.1, y1.1, y2.1, y3.1, y4.1] := by simpa using hy.1
  subst hd
  obtain ⟨fa, fn, fc, fs, rfl, hfs⟩ := open_st f0 (hw.field Try.underlying41 (j := 0) (ft := 26) (by simp) (by simp))
  obtain ⟨pa, pn, pc, Q, rfl, hQ, hpc⟩ := open_rsc f1 (hw.field Try.underlying41 (j := 1) (ft := 22) (by simp) (by simp))
  obtain ⟨i2, e2, _⟩ := DataW.trod_int Try.underlying3 f2
  obtain ⟨i3, e3, _⟩ := DataW.trod_int Try.underlying3 f3
  obtain ⟨ma, mn, mc, ms, rfl, hms⟩ := open_st f4 (hw.field Try.underlying41 (j := 4) (ft := 26) (by simp) (by simp))
  simp at e2 e3
  subst e2 e3
  exact ⟨fa, fn, fc, fs, pa, pn, pc, Q, i2, i3, ma, mn, mc, ms, rfl, hfs, hQ, hms, hpc⟩
end
end
section
/-- the time of version v of computer c -/
def tm (T : List (List Int)) (c : Nat) (v : Int) : Int := (T[c]?.getD [])[v.toNat - 1]?.getD 0

/-- no number of xs is below that of ys -/
def aboveV (xs ys : List Int) : Bool := (List.range xs.length).all fun i => decide (ys[i]?.getD 0 ≤ xs[i]?.getD 0)

theorem aboveV_true {xs ys : List Int} {n : Nat} (hn : xs.length = n) (h : ∀ j, j < n → ys[j]?.getD 0 ≤ xs[j]?.getD 0) : aboveV xs ys = true := by
  subst hn; simp only [aboveV, List.all_eq_true, List.mem_range, decide_eq_true_eq]; exact h
theorem aboveV_false {xs ys : List Int} {n k : Nat} (hn : xs.length = n) (hk : k < n) (h : xs[k]?.getD 0 < ys[k]?.getD 0) : aboveV xs ys = false := by
  subst hn
  rw [Bool.eq_false_iff]; intro hc
  simp only [aboveV, List.all_eq_true, List.mem_range, decide_eq_true_eq] at hc
  have := hc k hk; omega

/-- the time of a step, over the first k computers -/
def durTo (T : List (List Int)) (a b : List Int) : Nat → Int
  | 0 => 0
  | k + 1 => durTo T a b k + if b[k]?.getD 0 = a[k]?.getD 0 then 0 else tm T k (b[k]?.getD 0)
def dur (T : List (List Int)) (a b : List Int) : Int := durTo T a b b.length

/-- a computer has a version -/
def verB (T : List (List Int)) (c v : Int) : Bool := decide (0 ≤ c) && decide (c < T.length) && decide (0 ≤ v) && decide (v ≤ ((T[c.toNat]?.getD []).length : Int))

structure FlOk (f : Fl) : Prop where
  n1 : 1 ≤ f.times.length
  n6 : f.times.length ≤ 6
  row : ∀ c, c < f.times.length → (f.times[c]?.getD []).length ≤ 3
  time : ∀ c v, c < f.times.length → v < (f.times[c]?.getD []).length → 1 ≤ (f.times[c]?.getD [])[v]?.getD 0 ∧ (f.times[c]?.getD [])[v]?.getD 0 ≤ 10000
  cl60 : f.cl.length ≤ 60
  cl : ∀ i, i < f.cl.length → verB f.times (f.cl[i]?.getD default).a (f.cl[i]?.getD default).va = true ∧ verB f.times (f.cl[i]?.getD default).b (f.cl[i]?.getD default).vb = true ∧
    (f.cl[i]?.getD default).a ≠ (f.cl[i]?.getD default).b

structure StOk (f : Fl) (s : List Int) : Prop where
  len : s.length = f.times.length
  ver : ∀ c, c < f.times.length → 0 ≤ s[c]?.getD 0 ∧ s[c]?.getD 0 ≤ ((f.times[c]?.getD []).length : Int)

/-- no lower version -/
def Le (a b : List Int) : Prop := ∀ c, c < a.length → a[c]?.getD 0 ≤ b[c]?.getD 0

theorem tm_bd {f : Fl} (h : FlOk f) {c : Nat} (hc : c < f.times.length) {v : Int} (h1 : 1 ≤ v) (h2 : v ≤ ((f.times[c]?.getD []).length : Int)) : 1 ≤ tm f.times c v ∧ tm f.times c v ≤ 10000 := by
  unfold tm; exact h.time c (v.toNat - 1) hc (by omega)

theorem durTo_bd' {f : Fl} (h : FlOk f) {a b : List Int} (ha : ∀ c, c < f.times.length → 0 ≤ a[c]?.getD 0) (hb : StOk f b) :
    ∀ k, k ≤ f.times.length → (∀ c, c < k → a[c]?.getD 0 ≤ b[c]?.getD 0) → 0 ≤ durTo f.times a b k ∧ durTo f.times a b k ≤ 10000 * k := by
  intro k
  induction k with
  | zero => intro _ _; simp [durTo]
  | succ k ih =>
    intro hk hab
    have := ih (by omega) (fun c hc => hab c (by omega))
    simp only [durTo]
    split
    · omega
    · rename_i hne
      have h1 := ha k (by omega)
      have h2 := hab k (by omega)
      have h3 := (hb.ver k (by omega)).2
      have := tm_bd h (c := k) (by omega) (v := b[k]?.getD 0) (by omega) h3
      omega

theorem durTo_bd {f : Fl} (h : FlOk f) {a b : List Int} (ha : ∀ c, c < f.times.length → 0 ≤ a[c]?.getD 0) (hb : StOk f b) (hab : ∀ c, c < f.times.length → a[c]?.getD 0 ≤ b[c]?.getD 0) :
    ∀ k, k ≤ f.times.length → 0 ≤ durTo f.times a b k ∧ durTo f.times a b k ≤ 10000 * k := fun k hk => durTo_bd' h ha hb k hk (fun c hc => hab c (by omega))

theorem durTo_zero_iff {f : Fl} (h : FlOk f) {a b : List Int} (ha : ∀ c, c < f.times.length → 0 ≤ a[c]?.getD 0) (hb : StOk f b) (hab : ∀ c, c < f.times.length → a[c]?.getD 0 ≤ b[c]?.getD 0) :
    ∀ k, k ≤ f.times.length → (durTo f.times a b k = 0 ↔ ∀ c, c < k → b[c]?.getD 0 = a[c]?.getD 0) := by
  intro k
  induction k with
  | zero => intro _; simp [durTo]
  | succ k ih =>
    intro hk
    have hi := ih (by omega)
    have hd := durTo_bd h ha hb hab k (by omega)
    simp only [durTo]
    split
    · rename_i he
      constructor
      · intro h0 c hc
        by_cases e : c = k
        · subst e; exact he
        · exact hi.1 (by omega) c (by omega)
      · intro h0
        have := hi.2 (fun c hc => h0 c (by omega)); omega
    · rename_i hne
      have h1 := ha k (by omega)
      have h2 := hab k (by omega)
      have h3 := (hb.ver k (by omega)).2
      have := tm_bd h (c := k) (by omega) (v := b[k]?.getD 0) (by omega) h3
      constructor
      · intro h0; omega
      · intro h0; exact absurd (h0 k (by omega)) hne

/-- the time of the step from a to b; -1: it is none -/
def stepV (T : List (List Int)) (a b : List Int) : Int := if aboveV b a then (if dur T a b = 0 then -1 else dur T a b) else -1

/-- the first clash from k on that applies to a state -/
def applies (c : Cl) (s : List Int) : Bool := (s[c.a.toNat]?.getD 0 == c.va) && (s[c.b.toNat]?.getD 0 == c.vb)
def clashFrom (C : List Cl) (s : List Int) : Nat → Nat → Int
  | 0, _ => -1
  | m + 1, k => if applies (C[k]?.getD default) s then (k : Int) else clashFrom C s m (k + 1)
def clashI (f : Fl) (s : List Int) : Int := clashFrom f.cl s f.cl.length 0
def worksB (f : Fl) (s : List Int) : Bool := decide (clashI f s < 0)

theorem clashFrom_lt (C : List Cl) (s : List Int) : ∀ m k, -1 ≤ clashFrom C s m k ∧ clashFrom C s m k < (k + m : Nat) := by
  intro m
  induction m with
  | zero => intro k; simp [clashFrom]; omega
  | succ m ih =>
    intro k
    simp only [clashFrom]
    split
    · omega
    · have := ih (k + 1); omega
end
section
open Go.RowKit

def withinB (n lo hi : Int) : Bool := decide (lo ≤ n) && decide (n ≤ hi)

set_option maxHeartbeats 400000 in
theorem within_any (n lo hi : Int) (w : World) : Calls Try.prog 61 #[.int .i64 n, .int .i64 lo, .int .i64 hi] w fun e w' => e = .returned (.bool (withinB n lo hi)) ∧ w = w' := by
  by_cases h1 : lo ≤ n
  · by_cases h2 : n ≤ hi
    · go_enter Try.func61, Try.ntmps61
      go_wp2
      go_ret
      exact ⟨by simp [withinB, h1, h2], rfl⟩
    · go_enter Try.func61, Try.ntmps61
      go_wp2
      go_ret
      exact ⟨by simp [withinB, h2], rfl⟩
  · have : decide (lo ≤ n) = false := by simpa using h1
    go_enter Try.func61, Try.ntmps61
    go_wp2
    go_ret
    exact ⟨ret_bool (by simp only [withinB, this, Bool.false_and]), rfl⟩

set_option maxHeartbeats 400000 in
theorem within2_any (n lo hi : Int) (w : World) : Calls Try.prog 63 #[.int .i64 n, .int .i64 lo, .int .i64 hi] w fun e w' => e = .returned (.bool (withinB n lo hi)) ∧ w = w' := by
  by_cases h1 : lo ≤ n
  · by_cases h2 : n ≤ hi
    · go_enter Try.func63, Try.ntmps63
      go_wp2
      go_ret
      exact ⟨by simp [withinB, h1, h2], rfl⟩
    · go_enter Try.func63, Try.ntmps63
      go_wp2
      go_ret
      exact ⟨by simp [withinB, h2], rfl⟩
  · have : decide (lo ≤ n) = false := by simpa using h1
    go_enter Try.func63, Try.ntmps63
    go_wp2
    go_ret
    exact ⟨ret_bool (by simp only [withinB, this, Bool.false_and]), rfl⟩

/-- two lists agree on their first n numbers -/
def eqUpto (n : Nat) (xs ys : List Int) : Prop := ∀ j, j < n → xs[j]?.getD 0 = ys[j]?.getD 0

theorem eqUpto_iff {xs ys : List Int} (h : xs.length = ys.length) : eqUpto xs.length xs ys ↔ xs = ys := by
  constructor
  · intro hu
    apply List.ext_getElem h
    intro i h1 h2
    have := hu i h1
    simpa [h1, h2] using this
  · rintro rfl j _; rfl

set_option maxHeartbeats 400000 in
theorem above_any (a b : Option Addr) (n c m d : Nat) (xs ys : List Int) (w : World) (ha : Ints w a n xs) (hb : Ints w b m ys) (hnm : n ≤ m) :
    Calls Try.prog 55 #[.slice a n c, .slice b m d] w fun e w' => e = .returned (.bool (aboveV xs ys)) ∧ ∃ q, w' = w.drewN q := by
  have hn := ha.lt
  go_enter Try.func55, Try.ntmps55
  go_wp2
  go_loopw [8] (fun i wr => ∃ k q : Nat, k ≤ n ∧ i = .int .i64 k ∧ wr = w.drewN q ∧ Hid (∀ j, j < k → ys[j]?.getD 0 ≤ xs[j]?.getD 0)) (fun i _ => n - (intOf i).toNat)
  case atStart => exact ⟨0, 0, Nat.zero_le _, rfl, rfl, Lib.hid (by intros; omega)⟩
  case round =>
    obtain ⟨k, q, hk, rfl, rfl, hall⟩ := hrel
    by_cases hlt : k < n
    · obtain ⟨aa, rfl, hab, hac⟩ := ha.at hlt
      obtain ⟨bb, rfl, hbb, hbc⟩ := hb.at (j := k) (by omega)
      by_cases hc : xs[k]?.getD 0 < ys[k]?.getD 0
      · go_wp2
        go_region
        go_wp2
        go_ret
        exact ⟨ret_bool (aboveV_false ha.len hlt hc).symm, _, rfl⟩
      · go_wp2
        go_region
        go_wp2
        go_roundw
        case rel => exact ⟨k + 1, _, by omega, by go_num, rfl, Lib.hid (fun j hj => by
          by_cases e : j = k
          · subst e; omega
          · exact hall.out j (by omega))⟩
        case measure => simp [intOf]; omega
    · obtain rfl : k = n := by omega
      go_wp2
      go_ret
      exact ⟨ret_bool (aboveV_true ha.len hall.out).symm, _, rfl⟩

theorem decide_eq_of_upto {n : Nat} {xs ys : List Int} (hx : xs.length = n) (hy : ys.length = n) (h : ∀ j, j < n → xs[j]?.getD 0 = ys[j]?.getD 0) : decide (xs = ys) = true := by
  subst hx; simp only [decide_eq_true_eq]; exact (eqUpto_iff hy.symm).1 h
theorem decide_ne_of_at {k : Nat} {xs ys : List Int} (h : ¬ xs[k]?.getD 0 = ys[k]?.getD 0) : decide (xs = ys) = false := by
  simp only [decide_eq_false_iff_not]; rintro rfl; exact h rfl
theorem decide_ne_of_len {xs ys : List Int} (h : ¬ xs.length = ys.length) : decide (xs = ys) = false := by
  simp only [decide_eq_false_iff_not]; rintro rfl; exact h rfl

set_option maxHeartbeats 400000 in
theorem equal_any (a b : Option Addr) (n c m d : Nat) (xs ys : List Int) (w : World) (ha : Ints w a n xs) (hb : Ints w b m ys) :
    Calls Try.prog 50 #[.slice a n c, .slice b m d] w fun e w' => e = .returned (.bool (decide (xs = ys))) ∧ ∃ q, w' = w.drewN q := by
  have hn := ha.lt
  by_cases hnm : n = m
  · subst hnm
    go_enter Try.func50, Try.ntmps50
    go_wp2
    go_loopw [13] (fun i wr => ∃ k q : Nat, k ≤ n ∧ i = .int .i64 k ∧ wr = w.drewN q ∧ Hid (∀ j, j < k → xs[j]?.getD 0 = ys[j]?.getD 0)) (fun i _ => n - (intOf i).toNat)
    case atStart => exact ⟨0, 0, Nat.zero_le _, rfl, rfl, Lib.hid (by intros; omega)⟩
    case round =>
      obtain ⟨k, q, hk, rfl, rfl, hall⟩ := hrel
      by_cases hlt : k < n
      · obtain ⟨aa, rfl, hab, hac⟩ := ha.at hlt
        obtain ⟨bb, rfl, hbb, hbc⟩ := hb.at (j := k) (by omega)
        by_cases hc : xs[k]?.getD 0 = ys[k]?.getD 0
        · have hcb : (xs[k]?.getD 0 != ys[k]?.getD 0) = false := by simp [hc]
          have HC := Lib.hid hc
          clear hc
          go_wp2
          go_region
          go_wp2
          go_roundw
          case rel => exact ⟨k + 1, _, by omega, by go_num, rfl, Lib.hid (fun j hj => by
            by_cases e : j = k
            · subst e; exact HC.out
            · exact hall.out j (by omega))⟩
          case measure => simp [intOf]; omega
        · have hcb : (xs[k]?.getD 0 != ys[k]?.getD 0) = true := by simp [hc]
          have HC := Lib.hid hc
          clear hc
          go_wp2
          go_region
          go_wp2
          go_ret
          exact ⟨ret_bool (decide_ne_of_at HC.out).symm, _, rfl⟩
      · obtain rfl : k = n := by omega
        go_wp2
        go_ret
        exact ⟨ret_bool (decide_eq_of_upto ha.len hb.len hall.out).symm, _, rfl⟩
  · have hne : ((n : Int) != (m : Int)) = true := by rw [bne_iff_ne]; omega
    go_enter Try.func50, Try.ntmps50
    go_wp2
    go_ret
    exact ⟨ret_bool (decide_ne_of_len (by rw [ha.len, hb.len]; exact hnm)).symm, 0, rfl⟩

set_option maxHeartbeats 400000 in
theorem sameInts_any (a b : Option Addr) (n c m d : Nat) (xs ys : List Int) (w : World) (ha : Ints w a n xs) (hb : Ints w b m ys) :
    Calls Try.prog 22 #[.slice a n c, .slice b m d] w fun e w' => e = .returned (.bool (decide (xs = ys))) ∧ ∃ q, w' = w.drewN q := by
  have hn := ha.lt
  by_cases hnm : n = m
  · subst hnm
    go_enter Try.func22, Try.ntmps22
    go_wp2
    go_loopw [5] (fun i wr => ∃ k q : Nat, k ≤ n ∧ i = .int .i64 k ∧ wr = w.drewN q ∧ Hid (∀ j, j < k → xs[j]?.getD 0 = ys[j]?.getD 0)) (fun i _ => n - (intOf i).toNat)
    case atStart => exact ⟨0, 0, Nat.zero_le _, rfl, rfl, Lib.hid (by intros; omega)⟩
    case round =>
      obtain ⟨k, q, hk, rfl, rfl, hall⟩ := hrel
      by_cases hlt : k < n
      · obtain ⟨aa, rfl, hab, hac⟩ := ha.at hlt
        obtain ⟨bb, rfl, hbb, hbc⟩ := hb.at (j := k) (by omega)
        by_cases hc : xs[k]?.getD 0 = ys[k]?.getD 0
        · have hcb : (xs[k]?.getD 0 != ys[k]?.getD 0) = false := by simp [hc]
          have HC := Lib.hid hc
          clear hc
          go_wp2
          go_region
          go_wp2
          go_roundw
          case rel => exact ⟨k + 1, _, by omega, by go_num, rfl, Lib.hid (fun j hj => by
            by_cases e : j = k
            · subst e; exact HC.out
            · exact hall.out j (by omega))⟩
          case measure => simp [intOf]; omega
        · have hcb : (xs[k]?.getD 0 != ys[k]?.getD 0) = true := by simp [hc]
          have HC := Lib.hid hc
          clear hc
          go_wp2
          go_region
          go_wp2
          go_ret
          exact ⟨ret_bool (decide_ne_of_at HC.out).symm, _, rfl⟩
      · obtain rfl : k = n := by omega
        go_wp2
        go_ret
        exact ⟨ret_bool (decide_eq_of_upto ha.len hb.len hall.out).symm, _, rfl⟩
  · have hne : ((n : Int) != (m : Int)) = true := by rw [bne_iff_ne]; omega
    go_enter Try.func22, Try.ntmps22
    go_wp2
    go_ret
    exact ⟨ret_bool (decide_ne_of_len (by rw [ha.len, hb.len]; exact hnm)).symm, 0, rfl⟩
set_option maxHeartbeats 400000 in
theorem same_any (a b : Option Addr) (n c d : Nat) (xs ys : List Int) (w : World) (ha : Ints w a n xs) (hb : Ints w b n ys) :
    Calls Try.prog 100 #[.slice a n c, .slice b n d] w fun e w' => e = .returned (.bool (decide (xs = ys))) ∧ ∃ q, w' = w.drewN q := by
  have hn := ha.lt
  go_enter Try.func100, Try.ntmps100
  go_wp2
  go_loopw [5] (fun i wr => ∃ k q : Nat, k ≤ n ∧ i = .int .i64 k ∧ wr = w.drewN q ∧ Hid (∀ j, j < k → xs[j]?.getD 0 = ys[j]?.getD 0)) (fun i _ => n - (intOf i).toNat)
  case atStart => exact ⟨0, 0, Nat.zero_le _, rfl, rfl, Lib.hid (by intros; omega)⟩
  case round =>
    obtain ⟨k, q, hk, rfl, rfl, hall⟩ := hrel
    by_cases hlt : k < n
    · obtain ⟨aa, rfl, hab, hac⟩ := ha.at hlt
      obtain ⟨bb, rfl, hbb, hbc⟩ := hb.at (j := k) (by omega)
      by_cases hc : xs[k]?.getD 0 = ys[k]?.getD 0
      · have hcb : (xs[k]?.getD 0 != ys[k]?.getD 0) = false := by simp [hc]
        have HC := Lib.hid hc
        clear hc
        go_wp2
        go_region
        go_wp2
        go_roundw
        case rel => exact ⟨k + 1, _, by omega, by go_num, rfl, Lib.hid (fun j hj => by
          by_cases e : j = k
          · subst e; exact HC.out
          · exact hall.out j (by omega))⟩
        case measure => simp [intOf]; omega
      · have hcb : (xs[k]?.getD 0 != ys[k]?.getD 0) = true := by simp [hc]
        have HC := Lib.hid hc
        clear hc
        go_wp2
        go_region
        go_wp2
        go_ret
        exact ⟨ret_bool (decide_ne_of_at HC.out).symm, _, rfl⟩
    · obtain rfl : k = n := by omega
      go_wp2
      go_ret
      exact ⟨ret_bool (decide_eq_of_upto ha.len hb.len hall.out).symm, _, rfl⟩
end
section
open Go.RowKit

theorem verB_out {T : List (List Int)} {x v : Int} (h : ¬ (0 ≤ x ∧ x < T.length)) : verB T x v = false := by
  unfold verB
  by_cases h1 : 0 ≤ x <;> by_cases h2 : x < T.length <;> simp [h1, h2] <;> omega
theorem withinB_eq_false {n lo hi : Int} (h : ¬ (lo ≤ n ∧ n ≤ hi)) : withinB n lo hi = false := by
  unfold withinB; by_cases h1 : lo ≤ n <;> by_cases h2 : n ≤ hi <;> simp [h1, h2]; omega
theorem withinB_eq_true {n lo hi : Int} (h : lo ≤ n ∧ n ≤ hi) : withinB n lo hi = true := by
  unfold withinB; simp [h.1, h.2]

set_option maxHeartbeats 1000000 in
theorem version_any (ta ca : Option Addr) (tn tc cn cc : Nat) (f : Fl) (x v : Int) (w : World) (hf : FlAt w ta tn ca cn f) :
    Calls Try.prog 76 #[.agg #[.slice ta tn tc, .slice ca cn cc], .int .i64 x, .int .i64 v] w fun e w' => e = .returned (.bool (verB f.times x v)) ∧ Gr w w' := by
  have hlt := hf.t.lt
  have htn := hf.t.len
  have HT := Lib.hid htn
  clear htn
  by_cases h1 : 0 ≤ x ∧ x ≤ (tn : Int) - 1
  · obtain ⟨h1, h2⟩ := h1
    have hw1 := withinB_eq_true (n := x) (lo := 0) (hi := (tn : Int) - 1) ⟨h1, h2⟩
    obtain ⟨k, rfl⟩ := Int.eq_ofNat_of_zero_le h1
    have hg := Gr.alloc w (.cells #[.slice ta tn tc, .slice ca cn cc] 25)
    obtain ⟨tt, ra, rn, rc, rfl, htb, htc, hri⟩ := (hf.t.gr hg).at (j := k) (by omega)
    have hrl := hri.lt
    have hx2 : (k : Int) < tn := by omega
    have hres : verB f.times k v = withinB v 0 rn := by
      unfold verB withinB
      have e1 : (0 : Int) ≤ k := by omega
      have e2 : (k : Int) < f.times.length := by have := HT.out; omega
      have e3 : ((f.times[(k : Int).toNat]?.getD []).length : Int) = rn := by rw [Int.toNat_natCast, hri.len]
      rw [e3]; simp [e1, e2]
    have HR := Lib.hid hres
    clear hres
    go_enter Try.func76, Try.ntmps76
    go_wp2_with (go_at_call 61; refine (within_any _ _ _ _).mono ?_; rintro e w' ⟨rfl, rfl⟩)
    go_ret
    exact ⟨ret_bool HR.out.symm, hg⟩
  · have hw1 := withinB_eq_false (n := x) (lo := 0) (hi := (tn : Int) - 1) h1
    have hres : verB f.times x v = false := verB_out (by have := HT.out; omega)
    have HR := Lib.hid hres
    clear hres h1
    go_enter Try.func76, Try.ntmps76
    go_wp2_with (go_at_call 61; refine (within_any _ _ _ _).mono ?_; rintro e w' ⟨rfl, rfl⟩)
    go_ret
    exact ⟨ret_bool HR.out.symm, Gr.alloc _ _⟩

set_option maxHeartbeats 1000000 in
theorem clash1_any (a : Option Addr) (n c B : Nat) (x : Cl) (s : List Int) (w : World) (hB : B < w.heap.size) (hc : w.cell? ⟨B, 0, none⟩ = some (.slice a n c)) (hs : Ints w a n s)
    (ha : 0 ≤ x.a ∧ x.a < n) (hb : 0 ≤ x.b ∧ x.b < n) :
    Calls Try.prog 96 #[.agg #[.int .i64 x.a, .int .i64 x.va, .int .i64 x.b, .int .i64 x.vb], .pointer (some ⟨B, 0, none⟩)] w fun e w' => e = .returned (.bool (applies x s)) ∧ Gr w w' := by
  obtain ⟨ha1, ha2⟩ := ha
  obtain ⟨hb1, hb2⟩ := hb
  have hn := hs.lt
  obtain ⟨aa, rfl, hab, hac⟩ := hs.at (j := x.a.toNat) (by omega)
  obtain ⟨bb, e, hbb, hbc⟩ := hs.at (j := x.b.toNat) (by omega)
  injection e with e
  subst e
  have hg := Gr.alloc w (.cells #[.int .i64 x.a, .int .i64 x.va, .int .i64 x.b, .int .i64 x.vb] 70)
  have hac1 := (hg.cell (p := aa.add x.a.toNat) (by rw [add_block]; exact hab)).trans hac
  have hbc1 := (hg.cell (p := aa.add x.b.toNat) (by rw [add_block]; exact hab)).trans hbc
  have hc1 := (hg.cell (p := ⟨B, 0, none⟩) hB).trans hc
  by_cases h1 : (s[x.a.toNat]?.getD 0 == x.va) = true
  · have hres : applies x s = (s[x.b.toNat]?.getD 0 == x.vb) := by simp only [applies, h1, Bool.true_and]
    have HR := Lib.hid hres
    clear hres
    go_enter Try.func96, Try.ntmps96
    go_wp2
    go_quiet (fail)
    go_wp2
    go_ret
    exact ⟨ret_bool HR.out.symm, hg.drewNR _⟩
  · have h1' : (s[x.a.toNat]?.getD 0 == x.va) = false := by simpa using h1
    have hres : applies x s = false := by simp only [applies, h1', Bool.false_and]
    have HR := Lib.hid hres
    clear hres h1
    go_enter Try.func96, Try.ntmps96
    go_wp2
    go_quiet (fail)
    go_wp2
    go_ret
    exact ⟨ret_bool HR.out.symm, hg.drewNR _⟩

theorem clashFrom_hit {C : List Cl} {s : List Int} {m k : Nat} (hm : 0 < m) (h : applies (C[k]?.getD default) s = true) : clashFrom C s m k = k := by
  cases m with
  | zero => omega
  | succ m => simp [clashFrom, h]
theorem clashFrom_miss {C : List Cl} {s : List Int} {m k : Nat} (h : applies (C[k]?.getD default) s = false) : clashFrom C s (m + 1) k = clashFrom C s m (k + 1) := by
  simp [clashFrom, h]

set_option maxHeartbeats 1000000 in
theorem indexFunc_clash (ca a : Option Addr) (cn cc n c B : Nat) (C : List Cl) (s : List Int) (w : World) (hC : ClAt w ca cn C) (hB : B < w.heap.size) (hc : w.cell? ⟨B, 0, none⟩ = some (.slice a n c)) (hs : Ints w a n s)
    (hin : ∀ i, i < cn → (0 ≤ (C[i]?.getD default).a ∧ (C[i]?.getD default).a < n) ∧ (0 ≤ (C[i]?.getD default).b ∧ (C[i]?.getD default).b < n)) :
    Calls Try.prog 95 #[.slice ca cn cc, .func (.func 96) #[] #[.pointer (some ⟨B, 0, none⟩)]] w fun e w' => e = .returned (.int .i64 (clashFrom C s C.length 0)) ∧ Gr w w' := by
  have hn := hC.lt
  have hl := hC.len
  have HL := Lib.hid hl
  have HIN := Lib.hid hin
  clear hl hin
  go_enter Try.func95, Try.ntmps95
  go_wp2
  go_loopw [8] (fun i wr => ∃ k : Nat, k ≤ cn ∧ i = .int .i64 k ∧ Gr w wr ∧ Hid (clashFrom C s C.length 0 = clashFrom C s (cn - k) k)) (fun i _ => cn - (intOf i).toNat)
  case atStart => exact ⟨0, Nat.zero_le _, rfl, Gr.refl _, Lib.hid (by rw [HL.out]; rfl)⟩
  case round =>
    obtain ⟨k, hk, rfl, hg, hcl⟩ := hrel
    by_cases hlt : k < cn
    · obtain ⟨aa, rfl, hab, c0, c1, c2, c3⟩ := (hC.gr hg).at hlt
      have hi := HIN.out k hlt
      have hcB := (hg.cell (p := ⟨B, 0, none⟩) hB).trans hc
      have hcon := clash1_any a n c B (C[k]?.getD default) s wr (Nat.lt_of_lt_of_le hB hg.size) hcB (hs.gr hg) hi.1 hi.2
      have HCON := Lib.hid hcon
      clear hcon hi hcB hc
      cases hap : applies (C[k]?.getD default) s with
      | true =>
        rw [hap] at HCON
        go_wp2_with (go_at_call 96; refine HCON.out.mono ?_; rintro e w' ⟨rfl, hg2⟩)
        go_ret
        exact ⟨ret_int (by rw [hcl.out, clashFrom_hit (by omega) hap]), hg.trans hg2⟩
      | false =>
        rw [hap] at HCON
        go_wp2_with (go_at_call 96; refine HCON.out.mono ?_; rintro e w' ⟨rfl, hg2⟩)
        go_roundw
        case rel => exact ⟨k + 1, by omega, by go_num, hg.trans hg2, Lib.hid (by
          rw [hcl.out]
          have e : cn - k = cn - (k + 1) + 1 := by omega
          rw [e, clashFrom_miss hap])⟩
        case measure => simp [intOf]; omega
    · obtain rfl : k = cn := by omega
      go_wp2
      go_ret
      exact ⟨ret_int (by rw [hcl.out, Nat.sub_self]; rfl), hg⟩
theorem verB_in {T : List (List Int)} {c v : Int} (h : verB T c v = true) : 0 ≤ c ∧ c < T.length ∧ 0 ≤ v ∧ v ≤ ((T[c.toNat]?.getD []).length : Int) := by
  simp only [verB, Bool.and_eq_true, decide_eq_true_eq] at h
  exact ⟨h.1.1.1, h.1.1.2, h.1.2, h.2⟩

theorem FlOk.cin {f : Fl} (h : FlOk f) {s : List Int} (hs : StOk f s) {n : Nat} (hn : s.length = n) : ∀ i, i < f.cl.length → (0 ≤ (f.cl[i]?.getD default).a ∧ (f.cl[i]?.getD default).a < n) ∧ (0 ≤ (f.cl[i]?.getD default).b ∧ (f.cl[i]?.getD default).b < n) := by
  intro i hi
  obtain ⟨h1, h2, _⟩ := h.cl i hi
  have := verB_in h1
  have := verB_in h2
  have := hs.len
  omega

set_option maxHeartbeats 1000000 in
theorem clash_any (ta ca a : Option Addr) (tn tc cn cc n c : Nat) (f : Fl) (s : List Int) (w : World) (hf : FlAt w ta tn ca cn f) (hok : FlOk f) (hs : Ints w a n s) (hst : StOk f s) :
    Calls Try.prog 78 #[.agg #[.slice ta tn tc, .slice ca cn cc], .slice a n c] w fun e w' => e = .returned (.int .i64 (clashI f s)) ∧ Gr w w' := by
  have hin := hok.cin hst hs.len
  rw [hf.c.len] at hin
  have HIN := Lib.hid hin
  clear hin
  obtain ⟨w2, hw2⟩ : ∃ w2, (w.alloc (.cells #[.slice ta tn tc, .slice ca cn cc] 25)).alloc (.cells #[.slice a n c] 26) = w2 := ⟨_, rfl⟩
  have hg : Gr w w2 := by rw [← hw2]; exact (Gr.alloc _ _).allocR _
  have hsz : w.heap.size + 1 < w2.heap.size := by rw [← hw2]; simp
  have hcell : w2.cell? ⟨w.heap.size + 1, 0, none⟩ = some (.slice a n c) := by rw [← hw2]; simp
  have hcall := indexFunc_clash ca a cn cc n c (w.heap.size + 1) f.cl s w2 (hf.c.gr hg) hsz hcell (hs.gr hg) HIN.out
  rw [← hw2] at hcall
  have HC := Lib.hid hcall
  clear hcall hcell
  subst hw2
  go_enter Try.func78, Try.ntmps78
  go_wp2_with (go_at_call 95; refine HC.out.mono ?_; rintro e w' ⟨rfl, hg2⟩)
  go_ret
  exact ⟨rfl, hg.trans hg2⟩

set_option maxHeartbeats 1000000 in
theorem works_any (ta ca a : Option Addr) (tn tc cn cc n c : Nat) (f : Fl) (s : List Int) (w : World) (hf : FlAt w ta tn ca cn f) (hok : FlOk f) (hs : Ints w a n s) (hst : StOk f s) :
    Calls Try.prog 48 #[.agg #[.slice ta tn tc, .slice ca cn cc], .slice a n c] w fun e w' => e = .returned (.bool (worksB f s)) ∧ Gr w w' := by
  go_enter Try.func48, Try.ntmps48
  have hg := Gr.alloc w (.cells #[.slice ta tn tc, .slice ca cn cc] 25)
  go_wp2_with (go_at_call 78; refine (clash_any _ _ _ _ _ _ _ _ _ f s _ (hf.gr hg) hok (hs.gr hg) hst).mono ?_; rintro e w' ⟨rfl, hg2⟩)
  go_ret
  exact ⟨ret_bool rfl, hg.trans hg2⟩

set_option maxHeartbeats 1000000 in
theorem clash2_any (ta ca a : Option Addr) (tn tc cn cc n c : Nat) (f : Fl) (s : List Int) (w : World) (hf : FlAt w ta tn ca cn f) (hok : FlOk f) (hs : Ints w a n s) (hst : StOk f s) :
    Calls Try.prog 69 #[.agg #[.slice ta tn tc, .slice ca cn cc], .slice a n c] w fun e w' => e = .returned (.int .i64 (clashI f s)) ∧ Gr w w' := by
  have hin := hok.cin hst hs.len
  rw [hf.c.len] at hin
  have HIN := Lib.hid hin
  have HL := Lib.hid hf.c.len
  have hcn := hf.c.lt
  have hn := hs.lt
  clear hin
  go_enter Try.func69, Try.ntmps69
  go_wp2
  obtain ⟨w1, hw1⟩ : ∃ w1, w.alloc (.cells #[.slice ta tn tc, .slice ca cn cc] 25) = w1 := ⟨_, rfl⟩
  have hg1 : Gr w w1 := by rw [← hw1]; exact Gr.alloc _ _
  have hc0 : w1.cell? ⟨w.heap.size, 1, none⟩ = some (.slice ca cn cc) := by rw [← hw1]; simp
  have hs1 : w.heap.size < w1.heap.size := by rw [← hw1]; simp
  rw [hw1]
  clear hw1
  go_loopw [5] (fun i wr => ∃ k : Nat, k ≤ cn ∧ i = .int .i64 k ∧ Gr w1 wr ∧ Hid (clashFrom f.cl s f.cl.length 0 = clashFrom f.cl s (cn - k) k)) (fun i _ => cn - (intOf i).toNat)
  case atStart => exact ⟨0, Nat.zero_le _, rfl, Gr.refl _, Lib.hid (by rw [HL.out]; rfl)⟩
  case round =>
    obtain ⟨k, hk, rfl, hg, hcl⟩ := hrel
    have hcr := (hg.cell (p := ⟨w.heap.size, 1, none⟩) hs1).trans hc0
    by_cases hlt : k < cn
    · obtain ⟨aa, rfl, hab, c0, c1, c2, c3⟩ := (hf.c.gr (hg1.trans hg)).at hlt
      obtain ⟨⟨i1, i2⟩, i3, i4⟩ := HIN.out k hlt
      obtain ⟨x, hx⟩ : ∃ x, f.cl[k]?.getD default = x := ⟨_, rfl⟩
      rw [hx] at c0 c1 c2 c3 i1 i2 i3 i4
      have HX := Lib.hid hx
      clear hx
      have hga := Gr.alloc wr (.cells #[.int .i64 x.a, .int .i64 x.va, .int .i64 x.b, .int .i64 x.vb] 70)
      obtain ⟨sa, rfl, hsab, hsac⟩ := (((hs.gr hg1).gr hg).gr hga).at (j := x.a.toNat) (by omega)
      obtain ⟨sb, e, hsbb, hsbc⟩ := (((hs.gr hg1).gr hg).gr hga).at (j := x.b.toNat) (by omega)
      injection e with e
      subst e
      by_cases h1 : (s[x.a.toNat]?.getD 0 == x.va) = true
      · by_cases h2 : (s[x.b.toNat]?.getD 0 == x.vb) = true
        · have hap : Hid (applies (f.cl[k]?.getD default) s = true) := Lib.hid (by rw [HX.out]; simp only [applies, h1, h2, Bool.and_true])
          go_wp2
          go_quiet (fail)
          go_wp2
          go_ret
          exact ⟨ret_int (by unfold clashI; rw [hcl.out, clashFrom_hit (by omega) hap.out]), (hg1.trans (hg.trans hga)).drewNR _⟩
        · have h2' : (s[x.b.toNat]?.getD 0 == x.vb) = false := by simpa using h2
          have hap : Hid (applies (f.cl[k]?.getD default) s = false) := Lib.hid (by rw [HX.out]; simp only [applies, h1, h2', Bool.and_false])
          clear h2
          go_wp2
          go_quiet (fail)
          go_wp2
          go_roundw
          case rel => exact ⟨k + 1, by omega, by go_num, (hg.trans hga).drewNR _, Lib.hid (by
            rw [hcl.out]
            have e : cn - k = cn - (k + 1) + 1 := by omega
            rw [e, clashFrom_miss hap.out])⟩
          case measure => simp [intOf]; omega
      · have h1' : (s[x.a.toNat]?.getD 0 == x.va) = false := by simpa using h1
        have hap : Hid (applies (f.cl[k]?.getD default) s = false) := Lib.hid (by rw [HX.out]; simp only [applies, h1', Bool.false_and])
        clear h1
        go_wp2
        go_quiet (fail)
        go_wp2
        go_roundw
        case rel => exact ⟨k + 1, by omega, by go_num, (hg.trans hga).drewNR _, Lib.hid (by
            rw [hcl.out]
            have e : cn - k = cn - (k + 1) + 1 := by omega
            rw [e, clashFrom_miss hap.out])⟩
        case measure => simp [intOf]; omega
    · obtain rfl : k = cn := by omega
      go_wp2
      go_ret
      exact ⟨ret_int (by unfold clashI; rw [hcl.out, Nat.sub_self]; rfl), hg1.trans hg⟩

set_option maxHeartbeats 1000000 in
theorem version2_any (ta ca : Option Addr) (tn tc cn cc : Nat) (f : Fl) (x v : Int) (w : World) (hf : FlAt w ta tn ca cn f) :
    Calls Try.prog 77 #[.agg #[.slice ta tn tc, .slice ca cn cc], .int .i64 x, .int .i64 v] w fun e w' => e = .returned (.bool (verB f.times x v)) ∧ Gr w w' := by
  have hlt := hf.t.lt
  have htn := hf.t.len
  have HT := Lib.hid htn
  clear htn
  by_cases h1 : 0 ≤ x ∧ x ≤ (tn : Int) - 1
  · obtain ⟨h1, h2⟩ := h1
    have hw1 := withinB_eq_true (n := x) (lo := 0) (hi := (tn : Int) - 1) ⟨h1, h2⟩
    obtain ⟨k, rfl⟩ := Int.eq_ofNat_of_zero_le h1
    have hg := Gr.alloc w (.cells #[.slice ta tn tc, .slice ca cn cc] 25)
    obtain ⟨tt, ra, rn, rc, rfl, htb, htc, hri⟩ := (hf.t.gr hg).at (j := k) (by omega)
    have hrl := hri.lt
    have hx2 : (k : Int) < tn := by omega
    have hres : verB f.times k v = withinB v 0 rn := by
      unfold verB withinB
      have e1 : (0 : Int) ≤ k := by omega
      have e2 : (k : Int) < f.times.length := by have := HT.out; omega
      have e3 : ((f.times[(k : Int).toNat]?.getD []).length : Int) = rn := by rw [Int.toNat_natCast, hri.len]
      rw [e3]; simp [e1, e2]
    have HR := Lib.hid hres
    clear hres
    go_enter Try.func77, Try.ntmps77
    go_wp2_with (go_at_call 63; refine (within2_any _ _ _ _).mono ?_; rintro e w' ⟨rfl, rfl⟩)
    go_ret
    exact ⟨ret_bool HR.out.symm, hg⟩
  · have hw1 := withinB_eq_false (n := x) (lo := 0) (hi := (tn : Int) - 1) h1
    have hres : verB f.times x v = false := verB_out (by have := HT.out; omega)
    have HR := Lib.hid hres
    clear hres h1
    go_enter Try.func77, Try.ntmps77
    go_wp2_with (go_at_call 63; refine (within2_any _ _ _ _).mono ?_; rintro e w' ⟨rfl, rfl⟩)
    go_ret
    exact ⟨ret_bool HR.out.symm, Gr.alloc _ _⟩
end
section
def rowOk (l : List Int) : Bool := decide (l.length ≤ 3) && !(l.any fun n => !withinB n 1 10000)
def clOk (T : List (List Int)) (c : Cl) : Bool := !(c.a == c.b) && verB T c.a c.va && verB T c.b c.vb
def chkB (f : Fl) : Bool := withinB f.times.length 1 6 && decide (f.cl.length ≤ 60) && (List.range f.times.length).all (fun i => rowOk (f.times[i]?.getD [])) && (List.range f.cl.length).all (fun i => clOk f.times (f.cl[i]?.getD default))
def chkE (f : Fl) : Int := if chkB f then 0 else 110

theorem chkE_head {f : Fl} (h : withinB f.times.length 1 6 = false ∨ 60 < f.cl.length) : chkE f = 110 := by
  have : chkB f = false := by
    rcases h with h | h
    · simp [chkB, h]
    · simp [chkB, show ¬ f.cl.length ≤ 60 by omega]
  simp [chkE, this]
theorem chkE_row {f : Fl} {k : Nat} (hk : k < f.times.length) (h : rowOk (f.times[k]?.getD []) = false) : chkE f = 110 := by
  have : (List.range f.times.length).all (fun i => rowOk (f.times[i]?.getD [])) = false := by
    rw [Bool.eq_false_iff]; intro hc
    rw [List.all_eq_true] at hc
    have := hc k (List.mem_range.2 hk)
    rw [h] at this; cases this
  simp only [chkE, chkB, this, Bool.and_false, Bool.false_and, Bool.false_eq_true, if_false]
theorem chkE_cl {f : Fl} {k : Nat} (hk : k < f.cl.length) (h : clOk f.times (f.cl[k]?.getD default) = false) : chkE f = 110 := by
  have : (List.range f.cl.length).all (fun i => clOk f.times (f.cl[i]?.getD default)) = false := by
    rw [Bool.eq_false_iff]; intro hc
    rw [List.all_eq_true] at hc
    have := hc k (List.mem_range.2 hk)
    rw [h] at this; cases this
  simp only [chkE, chkB, this, Bool.and_false, Bool.false_eq_true, if_false]
theorem chkE_ok {f : Fl} (h1 : withinB f.times.length 1 6 = true) (h2 : f.cl.length ≤ 60) (h3 : ∀ j, j < f.times.length → rowOk (f.times[j]?.getD []) = true) (h4 : ∀ j, j < f.cl.length → clOk f.times (f.cl[j]?.getD default) = true) : chkE f = 0 := by
  have e3 : (List.range f.times.length).all (fun i => rowOk (f.times[i]?.getD [])) = true := by
    rw [List.all_eq_true]; intro x hx; exact h3 x (List.mem_range.1 hx)
  have e4 : (List.range f.cl.length).all (fun i => clOk f.times (f.cl[i]?.getD default)) = true := by
    rw [List.all_eq_true]; intro x hx; exact h4 x (List.mem_range.1 hx)
  simp only [chkE, chkB, h1, e3, e4, Bool.and_true, if_true, Bool.true_and, decide_eq_true_eq, h2]

theorem withinB_iff {n lo hi : Int} : withinB n lo hi = true ↔ lo ≤ n ∧ n ≤ hi := by simp [withinB]

theorem any_getD {l : List Int} {p : Int → Bool} (h : l.any p = false) : ∀ v, v < l.length → p (l[v]?.getD 0) = false := by
  intro v hv
  rw [List.any_eq_false] at h
  have := h (l[v]) (List.getElem_mem hv)
  simpa [hv] using this

theorem chkB_ok {f : Fl} (h : chkB f = true) : FlOk f := by
  simp only [chkB, Bool.and_eq_true, decide_eq_true_eq, List.all_eq_true, List.mem_range] at h
  obtain ⟨⟨⟨h1, h2⟩, h3⟩, h4⟩ := h
  rw [withinB_iff] at h1
  refine ⟨by omega, by omega, fun c hc => ?_, fun c v hc hv => ?_, h2, fun i hi => ?_⟩
  · have := h3 c hc
    simp only [rowOk, Bool.and_eq_true, decide_eq_true_eq] at this
    exact this.1
  · have := h3 c hc
    simp only [rowOk, Bool.and_eq_true, decide_eq_true_eq, Bool.not_eq_true'] at this
    have := any_getD this.2 v hv
    simp only [Bool.not_eq_false'] at this
    exact withinB_iff.1 this
  · have := h4 i hi
    simp only [clOk, Bool.and_eq_true, Bool.not_eq_true', beq_eq_false_iff_ne] at this
    exact ⟨this.1.2, this.2, this.1.1⟩

/-- a state is one of a fleet's -/
def stB (T : List (List Int)) (s : List Int) : Bool := decide (s.length = T.length) && (List.range s.length).all fun c => verB T c (s[c]?.getD 0)

theorem stB_ok {f : Fl} {s : List Int} (h : stB f.times s = true) : StOk f s := by
  simp only [stB, Bool.and_eq_true, decide_eq_true_eq, List.all_eq_true, List.mem_range] at h
  refine ⟨h.1, fun c hc => ?_⟩
  have := verB_in (h.2 c (by omega))
  simp only [Int.toNat_natCast] at this
  exact ⟨this.2.2.1, this.2.2.2⟩
theorem stB_len {T : List (List Int)} {s : List Int} (h : ¬ s.length = T.length) : stB T s = false := by simp [stB, h]
theorem stB_at {T : List (List Int)} {s : List Int} {k : Nat} (hk : k < s.length) (h : verB T k (s[k]?.getD 0) = false) : stB T s = false := by
  have : (List.range s.length).all (fun c => verB T c (s[c]?.getD 0)) = false := by
    rw [Bool.eq_false_iff]; intro hc
    rw [List.all_eq_true] at hc
    have := hc k (List.mem_range.2 hk)
    rw [h] at this; cases this
  simp only [stB, this, Bool.and_false]
theorem stB_true {T : List (List Int)} {s : List Int} (h1 : s.length = T.length) (h2 : ∀ c, c < s.length → verB T c (s[c]?.getD 0) = true) : stB T s = true := by
  simp only [stB, Bool.and_eq_true, decide_eq_true_eq, List.all_eq_true, List.mem_range]; exact ⟨h1, h2⟩
end
section
open Go.RowKit

def IdxPost (b : Bool) (w : World) (e : Ending) (w' : World) : Prop := ∃ r : Int, e = .returned (.int .i64 r) ∧ decide (0 ≤ r) = b ∧ Gr w w'

theorem check1_any (n : Int) (w : World) : Calls Try.prog 75 #[.int .i64 n] w fun e w' => e = .returned (.bool (!withinB n 1 10000)) ∧ Gr w w' := by
  go_enter Try.func75, Try.ntmps75
  go_wp2_with (go_at_call 61; refine (within_any _ _ _ _).mono ?_; rintro e w' ⟨rfl, rfl⟩)
  go_ret
  exact ⟨rfl, Gr.refl _⟩

theorem any_hit {l : List Int} {p : Int → Bool} {k : Nat} (hk : k < l.length) (h : p (l[k]?.getD 0) = true) : l.any p = true := by
  rw [List.any_eq_true]; exact ⟨l[k], List.getElem_mem hk, by simpa [hk] using h⟩
theorem any_none {l : List Int} {p : Int → Bool} (h : ∀ j, j < l.length → p (l[j]?.getD 0) = false) : l.any p = false := by
  rw [List.any_eq_false]; intro x hx
  obtain ⟨j, hj, rfl⟩ := List.getElem_of_mem hx
  have := h j hj
  simpa [hj] using this

set_option maxHeartbeats 1000000 in
theorem indexFunc75 (a : Option Addr) (n c : Nat) (xs : List Int) (w : World) (hx : Ints w a n xs) :
    Calls Try.prog 93 #[.slice a n c, .func (.func 75) #[] #[]] w (IdxPost (xs.any fun n => !withinB n 1 10000) w) := by
  have hn := hx.lt
  go_enter Try.func93, Try.ntmps93
  go_wp2
  go_loopw [8] (fun i wr => ∃ k : Nat, k ≤ n ∧ i = .int .i64 k ∧ Gr w wr ∧ Hid (∀ j, j < k → (!withinB (xs[j]?.getD 0) 1 10000) = false)) (fun i _ => n - (intOf i).toNat)
  case atStart => exact ⟨0, Nat.zero_le _, rfl, Gr.refl _, Lib.hid (by intros; omega)⟩
  case round =>
    obtain ⟨k, hk, rfl, hg, hall⟩ := hrel
    by_cases hlt : k < n
    · obtain ⟨aa, rfl, hab, hac⟩ := (hx.gr hg).at hlt
      cases hb : (!withinB (xs[k]?.getD 0) 1 10000) with
      | true =>
        go_wp2_with (go_at_call 75; refine (check1_any _ _).mono ?_; rintro e w' ⟨rfl, hg2⟩)
        go_ret
        exact ⟨k, rfl, by rw [any_hit (p := fun n => !withinB n 1 10000) (by rw [hx.len]; exact hlt) hb]; simp, hg.trans hg2⟩
      | false =>
        go_wp2_with (go_at_call 75; refine (check1_any _ _).mono ?_; rintro e w' ⟨rfl, hg2⟩)
        go_roundw
        case rel => exact ⟨k + 1, by omega, by go_num, hg.trans hg2, Lib.hid (fun j hj => by
          by_cases e : j = k
          · subst e; exact hb
          · exact hall.out j (by omega))⟩
        case measure => simp [intOf]; omega
    · obtain rfl : k = n := by omega
      go_wp2
      go_ret
      exact ⟨-1, rfl, by rw [any_none (p := fun n => !withinB n 1 10000) (fun j hj => hall.out j (by rw [← hx.len]; exact hj))]; simp, hg⟩

theorem containsFunc75 (a : Option Addr) (n c : Nat) (xs : List Int) (w : World) (hx : Ints w a n xs) :
    Calls Try.prog 71 #[.slice a n c, .func (.func 75) #[] #[]] w fun e w' => e = .returned (.bool (xs.any fun n => !withinB n 1 10000)) ∧ Gr w w' := by
  go_enter Try.func71, Try.ntmps71
  go_wp2_with (go_at_call 93; refine (indexFunc75 _ _ _ _ _ hx).mono ?_; rintro e w' ⟨r, rfl, hr, hg⟩)
  go_ret
  exact ⟨rfl, by assumption⟩

theorem rowOk_long {l : List Int} (h : 3 < l.length) : rowOk l = false := by simp [rowOk, show ¬ l.length ≤ 3 by omega]
theorem rowOk_any {l : List Int} (h : (l.any fun n => !withinB n 1 10000) = true) : rowOk l = false := by unfold rowOk; rw [h]; simp
theorem rowOk_true {l : List Int} (h0 : ¬ 3 < l.length) (h : (l.any fun n => !withinB n 1 10000) = false) : rowOk l = true := by unfold rowOk; rw [h]; simp; omega

set_option maxHeartbeats 2000000 in
theorem check_any (ta ca : Option Addr) (tn tc cn cc : Nat) (f : Fl) (w : World) (hf : FlAt w ta tn ca cn f) :
    Calls Try.prog 36 #[.agg #[.slice ta tn tc, .slice ca cn cc]] w fun e w' => e = .returned (.int .i64 (chkE f)) ∧ Gr w w' := by
  have htn := hf.t.lt
  have hcn := hf.c.lt
  have HT := Lib.hid hf.t.len
  have HC := Lib.hid hf.c.len
  cases hw : withinB (tn : Int) 1 6 with
  | false =>
    go_enter Try.func36, Try.ntmps36
    go_wp2_with (go_at_call 61; refine (within_any _ _ _ _).mono ?_; rintro e w' ⟨rfl, rfl⟩)
    go_ret
    exact ⟨ret_int (chkE_head (.inl (by rw [HT.out]; exact hw))).symm, Gr.alloc _ _⟩
  | true =>
    by_cases h60 : (60 : Int) < cn
    · go_enter Try.func36, Try.ntmps36
      go_wp2_with (go_at_call 61; refine (within_any _ _ _ _).mono ?_; rintro e w' ⟨rfl, rfl⟩)
      go_ret
      exact ⟨ret_int (chkE_head (.inr (by rw [HC.out]; omega))).symm, Gr.alloc _ _⟩
    · go_enter Try.func36, Try.ntmps36
      go_wp2_with (go_at_call 61; refine (within_any _ _ _ _).mono ?_; rintro e w' ⟨rfl, rfl⟩)
      obtain ⟨w1, hw1⟩ : ∃ w1, w.alloc (.cells #[.slice ta tn tc, .slice ca cn cc] 25) = w1 := ⟨_, rfl⟩
      have hg1 : Gr w w1 := by rw [← hw1]; exact Gr.alloc _ _
      have hc0 : w1.cell? ⟨w.heap.size, 0, none⟩ = some (.slice ta tn tc) := by rw [← hw1]; simp
      have hc1 : w1.cell? ⟨w.heap.size, 1, none⟩ = some (.slice ca cn cc) := by rw [← hw1]; simp
      have hs1 : w.heap.size < w1.heap.size := by rw [← hw1]; simp
      rw [hw1]
      clear hw1
      go_loopw [21] (fun i wr => ∃ k : Nat, k ≤ tn ∧ i = .int .i64 k ∧ Gr w1 wr ∧ Hid (∀ j, j < k → rowOk (f.times[j]?.getD []) = true)) (fun i _ => tn - (intOf i).toNat)
      case atStart => exact ⟨0, Nat.zero_le _, rfl, Gr.refl _, Lib.hid (by intros; omega)⟩
      case round =>
        obtain ⟨k, hk, rfl, hg, hall⟩ := hrel
        by_cases hlt : k < tn
        · obtain ⟨tt, ra, rn, rc, rfl, htb, htc, hri⟩ := (hf.t.gr (hg1.trans hg)).at hlt
          have hrl := hri.lt
          have HR := Lib.hid hri.len
          by_cases h3 : (3 : Int) < rn
          · go_wp2_with fail
            go_ret
            exact ⟨ret_int (chkE_row (k := k) (by rw [HT.out]; exact hlt) (rowOk_long (by rw [HR.out]; omega))).symm, hg1.trans hg⟩
          · cases hany : ((f.times[k]?.getD []).any fun n => !withinB n 1 10000) with
            | true =>
              have hcon := containsFunc75 ra rn rc _ wr hri
              rw [hany] at hcon
              have HCON := Lib.hid hcon
              clear hcon
              go_wp2_with (go_at_call 71; refine HCON.out.mono ?_; rintro e w' ⟨rfl, hg2⟩)
              go_ret
              exact ⟨ret_int (chkE_row (k := k) (by rw [HT.out]; exact hlt) (rowOk_any hany)).symm, hg1.trans (hg.trans hg2)⟩
            | false =>
              have hcon := containsFunc75 ra rn rc _ wr hri
              rw [hany] at hcon
              have HCON := Lib.hid hcon
              have hrow : Hid (rowOk (f.times[k]?.getD []) = true) := Lib.hid (rowOk_true (by rw [HR.out]; omega) hany)
              clear hcon hany
              go_wp2_with (go_at_call 71; refine HCON.out.mono ?_; rintro e w' ⟨rfl, hg2⟩)
              go_roundw
              case rel => exact ⟨k + 1, by omega, by go_num, hg.trans hg2, Lib.hid (fun j hj => by
                by_cases e : j = k
                · subst e; exact hrow.out
                · exact hall.out j (by omega))⟩
              case measure => simp [intOf]; omega
        · obtain rfl : k = tn := by omega
          have hcr := (hg.cell (p := ⟨w.heap.size, 1, none⟩) hs1).trans hc1
          have hcr0 := (hg.cell (p := ⟨w.heap.size, 0, none⟩) hs1).trans hc0
          obtain ⟨w2, hw2⟩ : ∃ w2, w2 = wr := ⟨_, rfl⟩
          subst hw2
          have hs2 : w.heap.size < w2.heap.size := Nat.lt_of_lt_of_le hs1 hg.size
          go_wp2_with fail
          go_loopw [36] (fun i wr => ∃ k : Nat, k ≤ cn ∧ i = .int .i64 k ∧ Gr w2 wr ∧ Hid (∀ j, j < k → clOk f.times (f.cl[j]?.getD default) = true)) (fun i _ => cn - (intOf i).toNat)
          case atStart => exact ⟨0, Nat.zero_le _, rfl, Gr.refl _, Lib.hid (by intros; omega)⟩
          case round =>
            obtain ⟨j, hj, rfl, hgj, hallj⟩ := hrel
            by_cases hltj : j < cn
            · obtain ⟨aa, rfl, hab, c0, c1, c2, c3⟩ := (hf.c.gr ((hg1.trans hg).trans hgj)).at hltj
              obtain ⟨x, hx⟩ : ∃ x, f.cl[j]?.getD default = x := ⟨_, rfl⟩
              rw [hx] at c0 c1 c2 c3
              have HX := Lib.hid hx
              clear hx
              have hj1 := (hgj.cell (p := ⟨w.heap.size, 1, none⟩) hs2).trans hcr
              have hj0 := (hgj.cell (p := ⟨w.heap.size, 0, none⟩) hs2).trans hcr0
              have hga := Gr.alloc wr (.cells #[.int .i64 x.a, .int .i64 x.va, .int .i64 x.b, .int .i64 x.vb] 70)
              have hfl := hf.gr (((hg1.trans hg).trans hgj).trans hga)
              have hsr : w.heap.size < wr.heap.size := Nat.lt_of_lt_of_le hs2 hgj.size
              have k0 : (wr.alloc (.cells #[.int .i64 x.a, .int .i64 x.va, .int .i64 x.b, .int .i64 x.vb] 70)).cell? ⟨w.heap.size, 0, none⟩ = some (.slice ta k tc) := (hga.cell (p := ⟨w.heap.size, 0, none⟩) hsr).trans hj0
              have k1 : (wr.alloc (.cells #[.int .i64 x.a, .int .i64 x.va, .int .i64 x.b, .int .i64 x.vb] 70)).cell? ⟨w.heap.size, 1, none⟩ = some (.slice (some aa) cn cc) := (hga.cell (p := ⟨w.heap.size, 1, none⟩) hsr).trans hj1
              have x2 : (wr.alloc (.cells #[.int .i64 x.a, .int .i64 x.va, .int .i64 x.b, .int .i64 x.vb] 70)).cell? ⟨wr.heap.size, 2, none⟩ = some (.int .i64 x.b) := by simp
              have x3 : (wr.alloc (.cells #[.int .i64 x.a, .int .i64 x.va, .int .i64 x.b, .int .i64 x.vb] 70)).cell? ⟨wr.heap.size, 3, none⟩ = some (.int .i64 x.vb) := by simp
              have sz : wr.heap.size < (wr.alloc (.cells #[.int .i64 x.a, .int .i64 x.va, .int .i64 x.b, .int .i64 x.vb] 70)).heap.size := by simp
              have szw : w.heap.size < (wr.alloc (.cells #[.int .i64 x.a, .int .i64 x.va, .int .i64 x.b, .int .i64 x.vb] 70)).heap.size := Nat.lt_trans hsr sz
              have gall := ((hg1.trans hg).trans hgj).trans hga
              have K0 := Lib.hid k0
              have K1 := Lib.hid k1
              have X2 := Lib.hid x2
              have X3 := Lib.hid x3
              have SZ := Lib.hid sz
              have SZW := Lib.hid szw
              clear k0 k1 x2 x3 sz szw
              have fin : ∀ b, clOk f.times x = b → clOk f.times (f.cl[j]?.getD default) = b := fun b hb => by rw [HX.out]; exact hb
              have FIN := Lib.hid fin
              clear fin
              cases hab' : (x.a == x.b) with
              | true =>
                go_wp2_with (go_at_call 76; refine (version_any _ _ _ _ _ _ f _ _ _ (by first | exact hfl | exact hfl.gr (by assumption))).mono ?_; rintro e w3 ⟨rfl, hg3⟩)
                go_ret
                exact ⟨ret_int (chkE_cl (k := j) (by rw [HC.out]; exact hltj) (FIN.out false (by simp only [clOk, hab']; rfl))).symm, gall⟩
              | false =>
                cases hva : verB f.times x.a x.va with
                | false =>
                  go_wp2_with (go_at_call 76; refine (version_any _ _ _ _ _ _ f _ _ _ (by first | exact hfl | exact hfl.gr (by assumption))).mono ?_; rintro e w3 ⟨rfl, hg3⟩; have g0 := (hg3.cell (p := ⟨w.heap.size, 0, none⟩) SZW.out).trans K0.out; have g1 := (hg3.cell (p := ⟨w.heap.size, 1, none⟩) SZW.out).trans K1.out; have g2 := (hg3.cell (p := ⟨wr.heap.size, 2, none⟩) SZ.out).trans X2.out; have g3 := (hg3.cell (p := ⟨wr.heap.size, 3, none⟩) SZ.out).trans X3.out)
                  go_ret
                  exact ⟨ret_int (chkE_cl (k := j) (by rw [HC.out]; exact hltj) (FIN.out false (by simp only [clOk, hab', hva]; rfl))).symm, gall.trans (by assumption)⟩
                | true =>
                  cases hvb : verB f.times x.b x.vb with
                  | false =>
                    go_wp2_with (go_at_call 76; refine (version_any _ _ _ _ _ _ f _ _ _ (by first | exact hfl | exact hfl.gr (by assumption))).mono ?_; rintro e w3 ⟨rfl, hg3⟩; (try (have g0 := (hg3.cell (p := ⟨w.heap.size, 0, none⟩) SZW.out).trans K0.out; have g1 := (hg3.cell (p := ⟨w.heap.size, 1, none⟩) SZW.out).trans K1.out; have g2 := (hg3.cell (p := ⟨wr.heap.size, 2, none⟩) SZ.out).trans X2.out; have g3 := (hg3.cell (p := ⟨wr.heap.size, 3, none⟩) SZ.out).trans X3.out)))
                    go_ret
                    exact ⟨ret_int (chkE_cl (k := j) (by rw [HC.out]; exact hltj) (FIN.out false (by simp only [clOk, hvb, Bool.and_false]))).symm, (gall.trans (by assumption)).trans (by assumption)⟩
                  | true =>
                    go_wp2_with (go_at_call 76; refine (version_any _ _ _ _ _ _ f _ _ _ (by first | exact hfl | exact hfl.gr (by assumption))).mono ?_; rintro e w3 ⟨rfl, hg3⟩; (try (have g0 := (hg3.cell (p := ⟨w.heap.size, 0, none⟩) SZW.out).trans K0.out; have g1 := (hg3.cell (p := ⟨w.heap.size, 1, none⟩) SZW.out).trans K1.out; have g2 := (hg3.cell (p := ⟨wr.heap.size, 2, none⟩) SZ.out).trans X2.out; have g3 := (hg3.cell (p := ⟨wr.heap.size, 3, none⟩) SZ.out).trans X3.out)))
                    go_roundw
                    case rel => exact ⟨j + 1, by omega, by go_num, (hgj.trans hga).trans (Gr.trans (by assumption) (by assumption)), Lib.hid (fun i hi => by
                      by_cases e : i = j
                      · subst e; exact FIN.out true (by simp only [clOk, hab', hva, hvb]; rfl)
                      · exact hallj.out i (by omega))⟩
                    case measure => simp [intOf]; omega
            · obtain rfl : j = cn := by omega
              go_wp2_with fail
              go_ret
              exact ⟨ret_int (chkE_ok (by rw [HT.out]; exact hw) (by rw [HC.out]; omega) (fun i hi => hall.out i (by rw [← HT.out]; exact hi)) (fun i hi => hallj.out i (by rw [← HC.out]; exact hi))).symm, (hg1.trans hg).trans hgj⟩
end
section
open Go.RowKit

theorem chkE_of_true {f : Fl} (h : chkB f = true) : chkE f = 0 := by simp [chkE, h]
theorem chkE_of_false {f : Fl} (h : chkB f = false) : chkE f = 110 := by simp [chkE, h]

/-- the errors of a fleet and states -/
def stsB (T : List (List Int)) (L : List (List Int)) : Bool := (List.range L.length).all fun i => stB T (L[i]?.getD [])
def statesE (f : Fl) (L : List (List Int)) : Int := if chkB f then (if stsB f.times L then 0 else 1) else 110

theorem stsB_at {T L : List (List Int)} {k : Nat} (hk : k < L.length) (h : stB T (L[k]?.getD []) = false) : stsB T L = false := by
  rw [Bool.eq_false_iff]; intro hc
  rw [stsB, List.all_eq_true] at hc
  have := hc k (List.mem_range.2 hk)
  rw [h] at this; cases this
theorem stsB_true {T L : List (List Int)} (h : ∀ j, j < L.length → stB T (L[j]?.getD []) = true) : stsB T L = true := by
  rw [stsB, List.all_eq_true]; intro x hx; exact h x (List.mem_range.1 hx)
theorem statesE_bad {f : Fl} {L : List (List Int)} (h : chkB f = false) : statesE f L = 110 := by simp [statesE, h]
theorem statesE_one {f : Fl} {L : List (List Int)} (h : chkB f = true) {k : Nat} (hk : k < L.length) (hb : stB f.times (L[k]?.getD []) = false) : statesE f L = 1 := by
  simp [statesE, h, stsB_at hk hb]
theorem statesE_ok {f : Fl} {L : List (List Int)} (h : chkB f = true) (hb : ∀ j, j < L.length → stB f.times (L[j]?.getD []) = true) : statesE f L = 0 := by
  simp [statesE, h, stsB_true hb]

set_option maxHeartbeats 2000000 in
theorem checkStates_any (ta ca la : Option Addr) (tn tc cn cc ln lc : Nat) (f : Fl) (L : List (List Int)) (w : World) (hf : FlAt w ta tn ca cn f) (hL : RowsAt w la ln L) :
    Calls Try.prog 54 #[.agg #[.slice ta tn tc, .slice ca cn cc], .slice la ln lc] w fun e w' => e = .returned (.int .i64 (statesE f L)) ∧ Gr w w' := by
  have htn := hf.t.lt
  have hln := hL.lt
  have HT := Lib.hid hf.t.len
  have HL := Lib.hid hL.len
  have hga := Gr.alloc w (.cells #[.slice ta tn tc, .slice ca cn cc] 25)
  have hcon := check_any ta ca tn tc cn cc f _ (hf.gr hga)
  cases hchk : chkB f with
  | false =>
    rw [chkE_of_false hchk] at hcon
    have HCON := Lib.hid hcon
    clear hcon
    go_enter Try.func54, Try.ntmps54
    go_wp2_with (go_at_call 36; refine HCON.out.mono ?_; rintro e w' ⟨rfl, hg⟩)
    go_ret
    exact ⟨ret_int (statesE_bad hchk).symm, hga.trans (by assumption)⟩
  | true =>
    rw [chkE_of_true hchk] at hcon
    have HCON := Lib.hid hcon
    clear hcon
    have hc0 : (w.alloc (.cells #[.slice ta tn tc, .slice ca cn cc] 25)).cell? ⟨w.heap.size, 0, none⟩ = some (.slice ta tn tc) := by simp
    have hc1 : (w.alloc (.cells #[.slice ta tn tc, .slice ca cn cc] 25)).cell? ⟨w.heap.size, 1, none⟩ = some (.slice ca cn cc) := by simp
    have hsz : w.heap.size < (w.alloc (.cells #[.slice ta tn tc, .slice ca cn cc] 25)).heap.size := by simp
    have C0 := Lib.hid hc0
    have C1 := Lib.hid hc1
    have SZ := Lib.hid hsz
    clear hc0 hc1 hsz
    go_enter Try.func54, Try.ntmps54
    go_wp2_with (go_at_call 36; refine HCON.out.mono ?_; rintro e w1 ⟨rfl, hg1⟩)
    have hg1 : Gr (w.alloc (.cells #[.slice ta tn tc, .slice ca cn cc] 25)) w1 := by assumption
    have hc0 := (hg1.cell (p := ⟨w.heap.size, 0, none⟩) SZ.out).trans C0.out
    have hc1 := (hg1.cell (p := ⟨w.heap.size, 1, none⟩) SZ.out).trans C1.out
    have hs1 : w.heap.size < w1.heap.size := Nat.lt_of_lt_of_le SZ.out hg1.size
    have hw1 : Gr w w1 := hga.trans hg1
    clear hga hg1 C0 C1 SZ HCON
    go_loopw [17] (fun i wr => ∃ k : Nat, k ≤ ln ∧ i = .int .i64 k ∧ Gr w1 wr ∧ Hid (∀ j, j < k → stB f.times (L[j]?.getD []) = true)) (fun i _ => ln - (intOf i).toNat)
    case atStart => exact ⟨0, Nat.zero_le _, rfl, Gr.refl _, Lib.hid (by intros; omega)⟩
    case round =>
      obtain ⟨k, hk, rfl, hg, hall⟩ := hrel
      by_cases hlt : k < ln
      · obtain ⟨tt, ra, rn, rc, rfl, htb, htc, hri⟩ := (hL.gr (hw1.trans hg)).at hlt
        have hrl := hri.lt
        have HR := Lib.hid hri.len
        have h0 := (hg.cell (p := ⟨w.heap.size, 0, none⟩) hs1).trans hc0
        have h1 := (hg.cell (p := ⟨w.heap.size, 1, none⟩) hs1).trans hc1
        have hsr : w.heap.size < wr.heap.size := Nat.lt_of_lt_of_le hs1 hg.size
        by_cases hnt : rn = tn
        · have hne : ((rn : Int) != (tn : Int)) = false := by rw [bne_eq_false_iff_eq]; omega
          have HNT := Lib.hid hnt
          clear hnt
          obtain ⟨w2, hw2⟩ : ∃ w2, w2 = wr := ⟨_, rfl⟩
          subst hw2
          go_wp2
          go_loopw [29] (fun i wr => ∃ j : Nat, j ≤ rn ∧ i = .int .i64 j ∧ Gr w2 wr ∧ Hid (∀ c : Nat, c < j → verB f.times c ((L[k]?.getD [])[c]?.getD 0) = true)) (fun i _ => rn - (intOf i).toNat)
          case atStart => exact ⟨0, Nat.zero_le _, rfl, Gr.refl _, Lib.hid (by intros; omega)⟩
          case round =>
            obtain ⟨j, hj, rfl, hgj, hallj⟩ := hrel
            by_cases hltj : j < rn
            · obtain ⟨aa, rfl, hab, hac⟩ := (hri.gr hgj).at hltj
              have g0 := (hgj.cell (p := ⟨w.heap.size, 0, none⟩) hsr).trans h0
              have g1 := (hgj.cell (p := ⟨w.heap.size, 1, none⟩) hsr).trans h1
              have hver := version_any ta ca tn tc cn cc f j ((L[k]?.getD [])[j]?.getD 0) wr (hf.gr ((hw1.trans hg).trans hgj))
              cases hv : verB f.times j ((L[k]?.getD [])[j]?.getD 0) with
              | false =>
                rw [hv] at hver
                have HV := Lib.hid hver
                clear hver
                go_wp2_with (go_at_call 76; refine HV.out.mono ?_; rintro e w3 ⟨rfl, hg3⟩)
                go_ret
                exact ⟨ret_int (statesE_one hchk (k := k) (by rw [HL.out]; exact hlt) (stB_at (k := j) (by rw [HR.out]; exact hltj) hv)).symm, ((hw1.trans hg).trans hgj).trans (by assumption)⟩
              | true =>
                rw [hv] at hver
                have HV := Lib.hid hver
                clear hver
                go_wp2_with (go_at_call 76; refine HV.out.mono ?_; rintro e w3 ⟨rfl, hg3⟩)
                go_roundw
                case rel => exact ⟨j + 1, by omega, by go_num, hgj.trans (by assumption), Lib.hid (fun i hi => by
                  by_cases e : i = j
                  · subst e; exact hv
                  · exact hallj.out i (by omega))⟩
                case measure => simp [intOf]; omega
            · obtain rfl : j = rn := by omega
              go_wp2
              go_roundw
              case rel => exact ⟨k + 1, by omega, by go_num, hg.trans hgj, Lib.hid (fun i hi => by
                by_cases e : i = k
                · subst e; exact stB_true (by rw [HR.out, HT.out]; exact HNT.out) (fun c hc => hallj.out c (by rw [← HR.out]; exact hc))
                · exact hall.out i (by omega))⟩
              case measure => simp [intOf]; omega
        · have hne : ((rn : Int) != (tn : Int)) = true := by rw [bne_iff_ne]; omega
          have HNT := Lib.hid hnt
          clear hnt
          go_wp2
          go_ret
          exact ⟨ret_int (statesE_one hchk (k := k) (by rw [HL.out]; exact hlt) (stB_len (by rw [HR.out, HT.out]; exact HNT.out))).symm, hw1.trans hg⟩
      · obtain rfl : k = ln := by omega
        go_wp2
        go_ret
        exact ⟨ret_int (statesE_ok hchk (fun i hi => hall.out i (by rw [← HL.out]; exact hi))).symm, hw1.trans hg⟩

/-- the errors of a fleet, states and a budget -/
def beginE (f : Fl) (budget : Int) (L : List (List Int)) : Int := if statesE f L = 0 then (if withinB budget 0 1000000 then 0 else 1) else statesE f L

set_option maxHeartbeats 2000000 in
theorem begin_any (ta ca la : Option Addr) (tn tc cn cc ln lc : Nat) (f : Fl) (budget : Int) (L : List (List Int)) (w : World) (hf : FlAt w ta tn ca cn f) (hL : RowsAt w la ln L) :
    Calls Try.prog 47 #[.agg #[.slice ta tn tc, .slice ca cn cc], .int .i64 budget, .slice la ln lc] w fun e w' => e = .returned (.int .i64 (beginE f budget L)) ∧ Gr w w' := by
  have hga := Gr.alloc w (.cells #[.slice ta tn tc, .slice ca cn cc] 25)
  have hcon := Lib.hid (checkStates_any ta ca la tn tc cn cc ln lc f L _ (hf.gr hga) (hL.gr hga))
  by_cases hz : statesE f L = 0
  · have hzb : (statesE f L != 0) = false := by simp [hz]
    have HZ := Lib.hid hz
    clear hz
    cases hb : withinB budget 0 1000000 with
    | true =>
      go_enter Try.func47, Try.ntmps47
      go_wp2_with (first | (go_at_call 54; refine hcon.out.mono ?_; rintro e w' ⟨rfl, hg⟩) | (go_at_call 61; refine (within_any _ _ _ _).mono ?_; rintro e w' ⟨rfl, rfl⟩))
      go_ret
      exact ⟨ret_int (by simp [beginE, HZ.out, hb]), hga.trans (by assumption)⟩
    | false =>
      go_enter Try.func47, Try.ntmps47
      go_wp2_with (first | (go_at_call 54; refine hcon.out.mono ?_; rintro e w' ⟨rfl, hg⟩) | (go_at_call 61; refine (within_any _ _ _ _).mono ?_; rintro e w' ⟨rfl, rfl⟩))
      go_ret
      exact ⟨ret_int (by simp [beginE, HZ.out, hb]), hga.trans (by assumption)⟩
  · have hzb : (statesE f L != 0) = true := by simp [hz]
    have HZ := Lib.hid hz
    clear hz
    go_enter Try.func47, Try.ntmps47
    go_wp2_with (first | (go_at_call 54; refine hcon.out.mono ?_; rintro e w' ⟨rfl, hg⟩) | (go_at_call 61; refine (within_any _ _ _ _).mono ?_; rintro e w' ⟨rfl, rfl⟩))
    go_ret
    exact ⟨ret_int (by simp [beginE, HZ.out]), hga.trans (by assumption)⟩

set_option maxHeartbeats 2000000 in
theorem state_any (ta ca a : Option Addr) (tn tc cn cc n c : Nat) (f : Fl) (s : List Int) (w : World) (hf : FlAt w ta tn ca cn f) (hs : Ints w a n s) :
    Calls Try.prog 67 #[.agg #[.slice ta tn tc, .slice ca cn cc], .slice a n c] w fun e w' => e = .returned (.bool (stB f.times s)) ∧ Gr w w' := by
  have htn := hf.t.lt
  have hn := hs.lt
  have HT := Lib.hid hf.t.len
  have HS := Lib.hid hs.len
  by_cases hnt : n = tn
  · have hne : ((n : Int) != (tn : Int)) = false := by rw [bne_eq_false_iff_eq]; omega
    have HNT := Lib.hid hnt
    clear hnt
    go_enter Try.func67, Try.ntmps67
    go_wp2
    obtain ⟨w1, hw1⟩ : ∃ w1, w.alloc (.cells #[.slice ta tn tc, .slice ca cn cc] 25) = w1 := ⟨_, rfl⟩
    have hg1 : Gr w w1 := by rw [← hw1]; exact Gr.alloc _ _
    have hc0 : w1.cell? ⟨w.heap.size, 0, none⟩ = some (.slice ta tn tc) := by rw [← hw1]; simp
    have hc1 : w1.cell? ⟨w.heap.size, 1, none⟩ = some (.slice ca cn cc) := by rw [← hw1]; simp
    have hs1 : w.heap.size < w1.heap.size := by rw [← hw1]; simp
    rw [hw1]
    clear hw1
    go_loopw [5] (fun i wr => ∃ k : Nat, k ≤ n ∧ i = .int .i64 k ∧ Gr w1 wr ∧ Hid (∀ j : Nat, j < k → verB f.times j (s[j]?.getD 0) = true)) (fun i _ => n - (intOf i).toNat)
    case atStart => exact ⟨0, Nat.zero_le _, rfl, Gr.refl _, Lib.hid (by intros; omega)⟩
    case round =>
      obtain ⟨k, hk, rfl, hg, hall⟩ := hrel
      by_cases hlt : k < n
      · obtain ⟨aa, rfl, hab, hac⟩ := (hs.gr (hg1.trans hg)).at hlt
        have h0 := (hg.cell (p := ⟨w.heap.size, 0, none⟩) hs1).trans hc0
        have h1 := (hg.cell (p := ⟨w.heap.size, 1, none⟩) hs1).trans hc1
        have hfr := hf.gr (hg1.trans hg)
        have hsr : w.heap.size < wr.heap.size := Nat.lt_of_lt_of_le hs1 hg.size
        have hsa : (aa.add k).block < wr.heap.size := by rw [add_block]; exact hab
        cases hv : verB f.times k (s[k]?.getD 0) with
        | false =>
          go_wp2
          go_region_held3 (fun w' => w'.cell? ⟨w.heap.size, 0, none⟩ = some (.slice ta tn tc) ∧ w'.cell? ⟨w.heap.size, 1, none⟩ = some (.slice ca cn cc) ∧ w'.cell? (aa.add k) = some (.int .i64 (s[k]?.getD 0))) (first | go_keep | exact ⟨by assumption, by assumption, by assumption⟩)
            (first | (go_at_call 77; refine (version2_any _ _ _ _ _ _ f _ _ _ (hfr.gr (Gr.drew _))).mono ?_; rintro e w' ⟨rfl, hg2⟩; have s0 := (hg2.cell (p := ⟨w.heap.size, 0, none⟩) hsr).trans h0; have s1 := (hg2.cell (p := ⟨w.heap.size, 1, none⟩) hsr).trans h1; have s2 := (hg2.cell (p := aa.add k) hsa).trans hac))
          go_wp2
          go_ret
          exact ⟨ret_bool (stB_at (k := k) (by rw [HS.out]; exact hlt) hv).symm, (hg1.trans hg).trans ((Gr.drew _).trans (by assumption))⟩
        | true =>
          go_wp2
          go_region_held3 (fun w' => w'.cell? ⟨w.heap.size, 0, none⟩ = some (.slice ta tn tc) ∧ w'.cell? ⟨w.heap.size, 1, none⟩ = some (.slice ca cn cc) ∧ w'.cell? (aa.add k) = some (.int .i64 (s[k]?.getD 0))) (first | go_keep | exact ⟨by assumption, by assumption, by assumption⟩)
            (first | (go_at_call 77; refine (version2_any _ _ _ _ _ _ f _ _ _ (hfr.gr (Gr.drew _))).mono ?_; rintro e w' ⟨rfl, hg2⟩; have s0 := (hg2.cell (p := ⟨w.heap.size, 0, none⟩) hsr).trans h0; have s1 := (hg2.cell (p := ⟨w.heap.size, 1, none⟩) hsr).trans h1; have s2 := (hg2.cell (p := aa.add k) hsa).trans hac))
          go_wp2
          go_roundw
          case rel => exact ⟨k + 1, by omega, by go_num, hg.trans ((Gr.drew _).trans (by assumption)), Lib.hid (fun j hj => by
            by_cases e : j = k
            · subst e; exact hv
            · exact hall.out j (by omega))⟩
          case measure => simp [intOf]; omega
      · obtain rfl : k = n := by omega
        go_wp2
        go_ret
        exact ⟨ret_bool (stB_true (by rw [HS.out, HT.out]; exact HNT.out) (fun c hc => hall.out c (by rw [← HS.out]; exact hc))).symm, hg1.trans hg⟩
  · have hne : ((n : Int) != (tn : Int)) = true := by rw [bne_iff_ne]; omega
    have HNT := Lib.hid hnt
    clear hnt
    go_enter Try.func67, Try.ntmps67
    go_wp2
    go_ret
    exact ⟨ret_bool (stB_len (by rw [HS.out, HT.out]; exact HNT.out)).symm, Gr.alloc _ _⟩
end
section
open Go.RowKit

theorem rowOk_bad {l : List Int} {v : Nat} (hv : v < l.length) (h : withinB (l[v]?.getD 0) 1 10000 = false) : rowOk l = false :=
  rowOk_any (any_hit (p := fun n => !withinB n 1 10000) hv (by simp only [h]; rfl))
theorem rowOk_good {l : List Int} (h0 : ¬ 3 < l.length) (h : ∀ j, j < l.length → withinB (l[j]?.getD 0) 1 10000 = true) : rowOk l = true :=
  rowOk_true h0 (any_none (p := fun n => !withinB n 1 10000) (fun j hj => by simp only [h j hj]; rfl))

set_option maxHeartbeats 4000000 in
theorem check2_any (ta ca : Option Addr) (tn tc cn cc : Nat) (f : Fl) (w : World) (hf : FlAt w ta tn ca cn f) :
    Calls Try.prog 37 #[.agg #[.slice ta tn tc, .slice ca cn cc]] w fun e w' => e = .returned (.int .i64 (chkE f)) ∧ Gr w w' := by
  have htn := hf.t.lt
  have hcn := hf.c.lt
  have HT := Lib.hid hf.t.len
  have HC := Lib.hid hf.c.len
  cases hw : withinB (tn : Int) 1 6 with
  | false =>
    go_enter Try.func37, Try.ntmps37
    go_wp2_with (go_at_call 63; refine (within2_any _ _ _ _).mono ?_; rintro e w' ⟨rfl, rfl⟩)
    go_ret
    exact ⟨ret_int (chkE_head (.inl (by rw [HT.out]; exact hw))).symm, Gr.alloc _ _⟩
  | true =>
    by_cases h60 : (60 : Int) < cn
    · go_enter Try.func37, Try.ntmps37
      go_wp2_with (go_at_call 63; refine (within2_any _ _ _ _).mono ?_; rintro e w' ⟨rfl, rfl⟩)
      go_ret
      exact ⟨ret_int (chkE_head (.inr (by rw [HC.out]; omega))).symm, Gr.alloc _ _⟩
    · go_enter Try.func37, Try.ntmps37
      go_wp2_with (go_at_call 63; refine (within2_any _ _ _ _).mono ?_; rintro e w' ⟨rfl, rfl⟩)
      obtain ⟨w1, hw1⟩ : ∃ w1, w.alloc (.cells #[.slice ta tn tc, .slice ca cn cc] 25) = w1 := ⟨_, rfl⟩
      have hg1 : Gr w w1 := by rw [← hw1]; exact Gr.alloc _ _
      have hc0 : w1.cell? ⟨w.heap.size, 0, none⟩ = some (.slice ta tn tc) := by rw [← hw1]; simp
      have hc1 : w1.cell? ⟨w.heap.size, 1, none⟩ = some (.slice ca cn cc) := by rw [← hw1]; simp
      have hs1 : w.heap.size < w1.heap.size := by rw [← hw1]; simp
      rw [hw1]
      clear hw1
      go_loop [3] (fun i => ∃ k : Nat, k ≤ tn ∧ i = .int .i64 k ∧ Hid (∀ j, j < k → rowOk (f.times[j]?.getD []) = true)) (fun i => tn - (intOf i).toNat)
      case atStart => exact ⟨0, Nat.zero_le _, rfl, Lib.hid (by intros; omega)⟩
      case round =>
        obtain ⟨k, hk, rfl, hall⟩ := hrel
        by_cases hlt : k < tn
        · obtain ⟨tt, ra, rn, rc, rfl, htb, htc, hri⟩ := (hf.t.gr hg1).at hlt
          have hrl := hri.lt
          have HR := Lib.hid hri.len
          by_cases h3 : (3 : Int) < rn
          · go_wp2_with fail
            go_ret
            exact ⟨ret_int (chkE_row (k := k) (by rw [HT.out]; exact hlt) (rowOk_long (by rw [HR.out]; omega))).symm, hg1⟩
          · go_wp2_with fail
            go_loop [4] (fun i => ∃ j : Nat, j ≤ rn ∧ i = .int .i64 j ∧ Hid (∀ v, v < j → withinB ((f.times[k]?.getD [])[v]?.getD 0) 1 10000 = true)) (fun i => rn - (intOf i).toNat)
            case atStart => exact ⟨0, Nat.zero_le _, rfl, Lib.hid (by intros; omega)⟩
            case round =>
              obtain ⟨j, hj, rfl, hallj⟩ := hrel
              by_cases hltj : j < rn
              · obtain ⟨aa, rfl, hab, hac⟩ := hri.at hltj
                cases hv : withinB ((f.times[k]?.getD [])[j]?.getD 0) 1 10000 with
                | false =>
                  go_wp2_with (go_at_call 63; refine (within2_any _ _ _ _).mono ?_; rintro e w' ⟨rfl, rfl⟩)
                  go_ret
                  exact ⟨ret_int (chkE_row (k := k) (by rw [HT.out]; exact hlt) (rowOk_bad (v := j) (by rw [HR.out]; exact hltj) hv)).symm, hg1⟩
                | true =>
                  go_wp2_with (go_at_call 63; refine (within2_any _ _ _ _).mono ?_; rintro e w' ⟨rfl, rfl⟩)
                  go_round
                  case rel => exact ⟨j + 1, by omega, by go_num, Lib.hid (fun i hi => by
                    by_cases e : i = j
                    · subst e; exact hv
                    · exact hallj.out i (by omega))⟩
                  case measure => simp [intOf]; omega
              · obtain rfl : j = rn := by omega
                go_wp2_with fail
                go_round
                case rel => exact ⟨k + 1, by omega, by go_num, Lib.hid (fun i hi => by
                  by_cases e : i = k
                  · subst e; exact rowOk_good (by rw [HR.out]; omega) (fun v hv => hallj.out v (by rw [← HR.out]; exact hv))
                  · exact hall.out i (by omega))⟩
                case measure => simp [intOf]; omega
        · obtain rfl : k = tn := by omega
          go_wp2_with fail
          go_loopw [5] (fun i wr => ∃ k : Nat, k ≤ cn ∧ i = .int .i64 k ∧ Gr w1 wr ∧ Hid (∀ j, j < k → clOk f.times (f.cl[j]?.getD default) = true)) (fun i _ => cn - (intOf i).toNat)
          case atStart => exact ⟨0, Nat.zero_le _, rfl, Gr.refl _, Lib.hid (by intros; omega)⟩
          case round =>
            obtain ⟨j, hj, rfl, hgj, hallj⟩ := hrel
            have hj1 := (hgj.cell (p := ⟨w.heap.size, 1, none⟩) hs1).trans hc1
            have hj0 := (hgj.cell (p := ⟨w.heap.size, 0, none⟩) hs1).trans hc0
            by_cases hltj : j < cn
            · obtain ⟨aa, rfl, hab, c0, c1, c2, c3⟩ := (hf.c.gr (hg1.trans hgj)).at hltj
              obtain ⟨x, hx⟩ : ∃ x, f.cl[j]?.getD default = x := ⟨_, rfl⟩
              rw [hx] at c0 c1 c2 c3
              have HX := Lib.hid hx
              clear hx
              have hga := Gr.alloc wr (.cells #[.int .i64 x.a, .int .i64 x.va, .int .i64 x.b, .int .i64 x.vb] 70)
              have hfl := hf.gr ((hg1.trans hgj).trans hga)
              have hsr : w.heap.size < wr.heap.size := Nat.lt_of_lt_of_le hs1 hgj.size
              have k0 : (wr.alloc (.cells #[.int .i64 x.a, .int .i64 x.va, .int .i64 x.b, .int .i64 x.vb] 70)).cell? ⟨w.heap.size, 0, none⟩ = some (.slice ta k tc) := (hga.cell (p := ⟨w.heap.size, 0, none⟩) hsr).trans hj0
              have k1 : (wr.alloc (.cells #[.int .i64 x.a, .int .i64 x.va, .int .i64 x.b, .int .i64 x.vb] 70)).cell? ⟨w.heap.size, 1, none⟩ = some (.slice (some aa) cn cc) := (hga.cell (p := ⟨w.heap.size, 1, none⟩) hsr).trans hj1
              have x0 : (wr.alloc (.cells #[.int .i64 x.a, .int .i64 x.va, .int .i64 x.b, .int .i64 x.vb] 70)).cell? ⟨wr.heap.size, 0, none⟩ = some (.int .i64 x.a) := by simp
              have x2 : (wr.alloc (.cells #[.int .i64 x.a, .int .i64 x.va, .int .i64 x.b, .int .i64 x.vb] 70)).cell? ⟨wr.heap.size, 2, none⟩ = some (.int .i64 x.b) := by simp
              have x3 : (wr.alloc (.cells #[.int .i64 x.a, .int .i64 x.va, .int .i64 x.b, .int .i64 x.vb] 70)).cell? ⟨wr.heap.size, 3, none⟩ = some (.int .i64 x.vb) := by simp
              have sz : wr.heap.size < (wr.alloc (.cells #[.int .i64 x.a, .int .i64 x.va, .int .i64 x.b, .int .i64 x.vb] 70)).heap.size := by simp
              have szw : w.heap.size < (wr.alloc (.cells #[.int .i64 x.a, .int .i64 x.va, .int .i64 x.b, .int .i64 x.vb] 70)).heap.size := Nat.lt_trans hsr sz
              have gall := (hg1.trans hgj).trans hga
              have K0 := Lib.hid k0
              have K1 := Lib.hid k1
              have X0 := Lib.hid x0
              have X2 := Lib.hid x2
              have X3 := Lib.hid x3
              have SZ := Lib.hid sz
              have SZW := Lib.hid szw
              clear k0 k1 x0 x2 x3 sz szw
              have fin : ∀ b, clOk f.times x = b → clOk f.times (f.cl[j]?.getD default) = b := fun b hb => by rw [HX.out]; exact hb
              have FIN := Lib.hid fin
              clear fin
              cases hva : verB f.times x.a x.va with
              | false =>
                go_wp2_with (go_at_call 77; refine (version2_any _ _ _ _ _ _ f _ _ _ (by first | exact hfl | exact hfl.gr (by assumption))).mono ?_; rintro e w3 ⟨rfl, hg3⟩; have g0 := (hg3.cell (p := ⟨w.heap.size, 0, none⟩) SZW.out).trans K0.out; have g1 := (hg3.cell (p := ⟨w.heap.size, 1, none⟩) SZW.out).trans K1.out; have g2 := (hg3.cell (p := ⟨wr.heap.size, 2, none⟩) SZ.out).trans X2.out; have g3 := (hg3.cell (p := ⟨wr.heap.size, 3, none⟩) SZ.out).trans X3.out; have g4 := (hg3.cell (p := ⟨wr.heap.size, 0, none⟩) SZ.out).trans X0.out)
                go_ret
                exact ⟨ret_int (chkE_cl (k := j) (by rw [HC.out]; exact hltj) (FIN.out false (by simp only [clOk, hva, Bool.and_false, Bool.false_and]))).symm, gall.trans (by assumption)⟩
              | true =>
                cases hvb : verB f.times x.b x.vb with
                | false =>
                  go_wp2_with (go_at_call 77; refine (version2_any _ _ _ _ _ _ f _ _ _ (by first | exact hfl | exact hfl.gr (by assumption))).mono ?_; rintro e w3 ⟨rfl, hg3⟩; (try (have g0 := (hg3.cell (p := ⟨w.heap.size, 0, none⟩) SZW.out).trans K0.out; have g1 := (hg3.cell (p := ⟨w.heap.size, 1, none⟩) SZW.out).trans K1.out; have g2 := (hg3.cell (p := ⟨wr.heap.size, 2, none⟩) SZ.out).trans X2.out; have g3 := (hg3.cell (p := ⟨wr.heap.size, 3, none⟩) SZ.out).trans X3.out; have g4 := (hg3.cell (p := ⟨wr.heap.size, 0, none⟩) SZ.out).trans X0.out)))
                  go_ret
                  exact ⟨ret_int (chkE_cl (k := j) (by rw [HC.out]; exact hltj) (FIN.out false (by simp only [clOk, hvb, Bool.and_false]))).symm, (gall.trans (by assumption)).trans (by assumption)⟩
                | true =>
                  cases hab' : (x.a == x.b) with
                  | true =>
                    go_wp2_with (go_at_call 77; refine (version2_any _ _ _ _ _ _ f _ _ _ (by first | exact hfl | exact hfl.gr (by assumption))).mono ?_; rintro e w3 ⟨rfl, hg3⟩; first | (have g0 := (hg3.cell (p := ⟨w.heap.size, 0, none⟩) SZW.out).trans K0.out; have g1 := (hg3.cell (p := ⟨w.heap.size, 1, none⟩) SZW.out).trans K1.out; have g2 := (hg3.cell (p := ⟨wr.heap.size, 2, none⟩) SZ.out).trans X2.out; have g3 := (hg3.cell (p := ⟨wr.heap.size, 3, none⟩) SZ.out).trans X3.out; have g4 := (hg3.cell (p := ⟨wr.heap.size, 0, none⟩) SZ.out).trans X0.out; have S4 := Lib.hid (Nat.lt_of_lt_of_le SZ.out hg3.size)) | (have g5 := (hg3.cell (p := ⟨wr.heap.size, 0, none⟩) S4.out).trans g4; have g6 := (hg3.cell (p := ⟨wr.heap.size, 2, none⟩) S4.out).trans g2))
                    go_ret
                    exact ⟨ret_int (chkE_cl (k := j) (by rw [HC.out]; exact hltj) (FIN.out false (by simp only [clOk, hab']; rfl))).symm, (gall.trans (by assumption)).trans (by assumption)⟩
                  | false =>
                    go_wp2_with (go_at_call 77; refine (version2_any _ _ _ _ _ _ f _ _ _ (by first | exact hfl | exact hfl.gr (by assumption))).mono ?_; rintro e w3 ⟨rfl, hg3⟩; first | (have g0 := (hg3.cell (p := ⟨w.heap.size, 0, none⟩) SZW.out).trans K0.out; have g1 := (hg3.cell (p := ⟨w.heap.size, 1, none⟩) SZW.out).trans K1.out; have g2 := (hg3.cell (p := ⟨wr.heap.size, 2, none⟩) SZ.out).trans X2.out; have g3 := (hg3.cell (p := ⟨wr.heap.size, 3, none⟩) SZ.out).trans X3.out; have g4 := (hg3.cell (p := ⟨wr.heap.size, 0, none⟩) SZ.out).trans X0.out; have S4 := Lib.hid (Nat.lt_of_lt_of_le SZ.out hg3.size)) | (have g5 := (hg3.cell (p := ⟨wr.heap.size, 0, none⟩) S4.out).trans g4; have g6 := (hg3.cell (p := ⟨wr.heap.size, 2, none⟩) S4.out).trans g2))
                    go_roundw
                    case rel => exact ⟨j + 1, by omega, by go_num, (hgj.trans hga).trans (Gr.trans (by assumption) (by assumption)), Lib.hid (fun i hi => by
                      by_cases e : i = j
                      · subst e; exact FIN.out true (by simp only [clOk, hab', hva, hvb]; rfl)
                      · exact hallj.out i (by omega))⟩
                    case measure => simp [intOf]; omega
            · obtain rfl : j = cn := by omega
              go_wp2_with fail
              go_ret
              exact ⟨ret_int (chkE_ok (by rw [HT.out]; exact hw) (by rw [HC.out]; omega) (fun i hi => hall.out i (by rw [← HT.out]; exact hi)) (fun i hi => hallj.out i (by rw [← HC.out]; exact hi))).symm, hg1.trans hgj⟩
end
section
open Go.RowKit

def nextV (t n : Int) : Int := (t * 257 + n + 1) % 65521
theorem nextV_bd (t n : Int) : 0 ≤ nextV t n ∧ nextV t n ≤ 65520 := by unfold nextV; omega

/-- the tag over the first bytes of the data -/
def tagL (s c v : Int) (data : List UInt8) : Int := data.foldl (fun t b => nextV t (b.toNat : Int)) (nextV (nextV s c) v)
theorem tagL_bd (s c v : Int) (data : List UInt8) : 0 ≤ tagL s c v data ∧ tagL s c v data ≤ 65520 := by
  have : ∀ (l : List UInt8) (t : Int), 0 ≤ t ∧ t ≤ 65520 → 0 ≤ l.foldl (fun t b => nextV t (b.toNat : Int)) t ∧ l.foldl (fun t b => nextV t (b.toNat : Int)) t ≤ 65520 := by
    intro l
    induction l with
    | nil => intro t h; exact h
    | cons b l ih => intro t _; exact ih _ (nextV_bd _ _)
  exact this _ _ (nextV_bd _ _)
theorem take_snocB (s : ByteArray) (k : Nat) (h : k < s.size) : s.data.toList.take (k + 1) = s.data.toList.take k ++ [s[k]] := by
  rw [List.take_succ_eq_append_getElem (by simpa using h)]; rfl
theorem tagL_snoc (s c v : Int) (l : List UInt8) (b : UInt8) : tagL s c v (l ++ [b]) = nextV (tagL s c v l) (b.toNat : Int) := by simp [tagL]

set_option maxHeartbeats 400000 in
theorem tag1_any (n t : Int) (B : Nat) (w : World) (hc : w.cell? ⟨B, 0, none⟩ = some (.int .i64 t)) (hf : w.frozen? ⟨B, 0, none⟩ = false) (h0 : 0 ≤ t) (h1 : t ≤ 65520) (h2 : 0 ≤ n) (h3 : n ≤ 255) :
    Calls Try.prog 92 #[.int .i64 n, .pointer (some ⟨B, 0, none⟩)] w fun e w' => (∃ v, e = .returned v) ∧ w' = w.setCell ⟨B, 0, none⟩ (.int .i64 (nextV t n)) := by
  go_enter Try.func92, Try.ntmps92
  go_wp2
  go_end0
  exact ⟨⟨_, rfl⟩, rfl⟩

set_option maxHeartbeats 400000 in
theorem next2_any (t n : Int) (w : World) (h0 : 0 ≤ t) (h1 : t ≤ 65520) (h2 : 0 ≤ n) (h3 : n ≤ 255) : Calls Try.prog 64 #[.int .i64 t, .int .i64 n] w fun e w' => e = .returned (.int .i64 (nextV t n)) ∧ w = w' := by
  go_enter Try.func64, Try.ntmps64
  go_wp2
  go_ret
  exact ⟨rfl, rfl⟩

/-- a packet as a value -/
def pkV (c v : Int) (data : ByteArray) (tg : Int) : Value := .agg #[.int .i64 c, .int .i64 v, .string data, .int .i64 tg]

set_option maxHeartbeats 1000000 in
theorem tag_any (s c v tg : Int) (data : ByteArray) (w : World) (hs0 : 0 ≤ s) (hs1 : s ≤ 65520) (hc0 : 0 ≤ c) (hc1 : c ≤ 255) (hv0 : 0 ≤ v) (hv1 : v ≤ 255) (hd : data.size ≤ 1000) :
    Calls Try.prog 62 #[.int .i64 s, .agg #[.int .i64 c, .int .i64 v, .string data, .int .i64 tg]] w fun e w' => e = .returned (.int .i64 (tagL s c v data.data.toList)) ∧ Gr w w' := by
  have b1 := nextV_bd s c
  have b2 := nextV_bd (nextV s c) v
  go_enter Try.func62, Try.ntmps62
  go_wp2_with fail
  refine (tag1_any c s (w.heap.size + 1) _ (by simp [go_sem]) (by simp [go_sem]) hs0 hs1 hc0 hc1).mono ?_
  rintro e w1 ⟨⟨x, rfl⟩, rfl⟩
  go_wp2_with fail
  refine (tag1_any v (nextV s c) (w.heap.size + 1) _ (by simp [go_sem]) (by simp [go_sem]) b1.1 b1.2 hv0 hv1).mono ?_
  rintro e w2 ⟨⟨x2, rfl⟩, rfl⟩
  go_wp2_with fail
  go_loopw [21] (fun i wr => ∃ k : Nat, k ≤ data.size ∧ i = .int .i64 k ∧ Gr w wr ∧ wr.cell? ⟨w.heap.size, 2, none⟩ = some (.string data) ∧ wr.cell? ⟨w.heap.size + 1, 0, none⟩ = some (.int .i64 (tagL s c v (data.data.toList.take k))) ∧ wr.frozen? ⟨w.heap.size + 1, 0, none⟩ = false) (fun i _ => data.size - (intOf i).toNat)
  case atStart =>
    refine ⟨0, Nat.zero_le _, rfl, ?_, by simp [go_sem], by simp [go_sem, tagL], by simp [go_sem]⟩
    exact (Gr.alloc _ _).allocR _
  case round =>
    obtain ⟨k, hk, rfl, hg, hcd, hct, hft⟩ := hrel
    have hb := tagL_bd s c v (data.data.toList.take k)
    by_cases hlt : k < data.size
    · have hsn : Hid (tagL s c v (data.data.toList.take (k + 1)) = nextV (tagL s c v (data.data.toList.take k)) (data[k].toNat : Int)) := Lib.hid (by rw [take_snocB data k hlt, tagL_snoc])
      have hby : (data[k].toNat : Int) ≤ 255 := by have := data[k].toNat_lt; omega
      generalize tagL s c v (data.data.toList.take k) = tk at *
      go_wp2_with fail
      refine (tag1_any _ tk (w.heap.size + 1) wr hct hft hb.1 hb.2 (by omega) hby).mono ?_
      rintro e w3 ⟨⟨x3, rfl⟩, rfl⟩
      have k1 : (wr.setCell ⟨w.heap.size + 1, 0, none⟩ (.int .i64 (nextV tk (data[k].toNat : Int)))).cell? ⟨w.heap.size, 2, none⟩ = some (.string data) := by simp [go_sem, hcd]
      have k2 : (wr.setCell ⟨w.heap.size + 1, 0, none⟩ (.int .i64 (nextV tk (data[k].toNat : Int)))).cell? ⟨w.heap.size + 1, 0, none⟩ = some (.int .i64 (nextV tk (data[k].toNat : Int))) := by simp [go_sem, hct]
      have k3 : (wr.setCell ⟨w.heap.size + 1, 0, none⟩ (.int .i64 (nextV tk (data[k].toNat : Int)))).frozen? ⟨w.heap.size + 1, 0, none⟩ = false := by simpa using hft
      have k4 : Gr w (wr.setCell ⟨w.heap.size + 1, 0, none⟩ (.int .i64 (nextV tk (data[k].toNat : Int)))) := hg.setCell (by simp only; omega) _
      generalize wr.setCell ⟨w.heap.size + 1, 0, none⟩ (.int .i64 (nextV tk (data[k].toNat : Int))) = w3 at *
      go_wp2_with fail
      go_roundw
      case rel => exact ⟨k + 1, by omega, by go_num, k4, k1, by rw [hsn.out]; exact k2, k3⟩
      case measure => simp [intOf]; omega
    · obtain rfl : k = data.size := by omega
      go_wp2_with fail
      go_ret
      exact ⟨ret_int (by rw [List.take_of_length_le (by simp)]), hg⟩

/-- the arguments of Tag are in order -/
def tagB (s c v : Int) (data : ByteArray) : Bool := withinB s 1 65520 && withinB c 0 5 && withinB v 0 3 && decide (data.size ≤ 1000)
def tagE (s c v : Int) (data : ByteArray) : Int := if tagB s c v data then 0 else 1
def tagR (s c v : Int) (data : ByteArray) : Int := if tagB s c v data then tagL s c v data.data.toList else 0

set_option maxHeartbeats 1000000 in
theorem Tag_any (s c v tg : Int) (data : ByteArray) (w : World) (hd : data.size < 1152921504606846976) :
    Calls Try.prog 25 #[.int .i64 s, .agg #[.int .i64 c, .int .i64 v, .string data, .int .i64 tg]] w fun e w' => e = .returned (.tuple #[.int .i64 (tagR s c v data), .int .i64 (tagE s c v data)]) ∧ Gr w w' := by
  have HW := Lib.hid within_any
  cases h1 : withinB s 1 65520 with
  | false =>
    have HP : Hid (tagR s c v data = 0 ∧ tagE s c v data = 1) := Lib.hid (by simp [tagR, tagE, tagB, h1])
    go_enter Try.func25, Try.ntmps25
    go_wp2_with fail
    refine (HW.out _ _ _ _).mono ?_
    rintro e w1 ⟨rfl, rfl⟩
    go_wp2_with fail
    go_ret2
    exact ⟨by rw [HP.out.1, HP.out.2]; rfl, Gr.alloc _ _⟩
  | true =>
    cases h2 : withinB c 0 5 with
    | false =>
      have HP : Hid (tagR s c v data = 0 ∧ tagE s c v data = 1) := Lib.hid (by simp [tagR, tagE, tagB, h1, h2])
      go_enter Try.func25, Try.ntmps25
      go_wp2_with fail
      refine (HW.out _ _ _ _).mono ?_
      rintro e w1 ⟨rfl, rfl⟩
      go_wp2_with fail
      refine (HW.out _ _ _ _).mono ?_
      rintro e w1 ⟨rfl, rfl⟩
      go_wp2_with fail
      go_ret2
      exact ⟨by rw [HP.out.1, HP.out.2]; rfl, Gr.alloc _ _⟩
    | true =>
      cases h3 : withinB v 0 3 with
      | false =>
        have HP : Hid (tagR s c v data = 0 ∧ tagE s c v data = 1) := Lib.hid (by simp [tagR, tagE, tagB, h1, h2, h3])
        go_enter Try.func25, Try.ntmps25
        go_wp2_with fail
        refine (HW.out _ _ _ _).mono ?_
        rintro e w1 ⟨rfl, rfl⟩
        go_wp2_with fail
        refine (HW.out _ _ _ _).mono ?_
        rintro e w1 ⟨rfl, rfl⟩
        go_wp2_with fail
        refine (HW.out _ _ _ _).mono ?_
        rintro e w1 ⟨rfl, rfl⟩
        go_wp2_with fail
        go_ret2
        exact ⟨by rw [HP.out.1, HP.out.2]; rfl, Gr.alloc _ _⟩
      | true =>
        by_cases h4 : data.size ≤ 1000
        · have HP : Hid (tagR s c v data = tagL s c v data.data.toList ∧ tagE s c v data = 0) := Lib.hid (by simp [tagR, tagE, tagB, h1, h2, h3, h4])
          have h1' := withinB_iff.1 h1
          have h2' := withinB_iff.1 h2
          have h3' := withinB_iff.1 h3
          have HT := Lib.hid (fun w => tag_any s c v tg data w (by omega) (by omega) (by omega) (by omega) (by omega) (by omega) h4)
          go_enter Try.func25, Try.ntmps25
          go_wp2_with fail
          refine (HW.out _ _ _ _).mono ?_
          rintro e w1 ⟨rfl, rfl⟩
          go_wp2_with fail
          refine (HW.out _ _ _ _).mono ?_
          rintro e w1 ⟨rfl, rfl⟩
          go_wp2_with fail
          refine (HW.out _ _ _ _).mono ?_
          rintro e w1 ⟨rfl, rfl⟩
          go_wp2_with fail
          refine (HT.out _).mono ?_
          rintro e w2 ⟨rfl, g2⟩
          go_wp2_with fail
          go_ret2
          exact ⟨by rw [HP.out.1, HP.out.2]; rfl, (Gr.alloc _ _).trans g2⟩
        · have HP : Hid (tagR s c v data = 0 ∧ tagE s c v data = 1) := Lib.hid (by simp [tagR, tagE, tagB, h1, h2, h3, h4])
          go_enter Try.func25, Try.ntmps25
          go_wp2_with fail
          refine (HW.out _ _ _ _).mono ?_
          rintro e w1 ⟨rfl, rfl⟩
          go_wp2_with fail
          refine (HW.out _ _ _ _).mono ?_
          rintro e w1 ⟨rfl, rfl⟩
          go_wp2_with fail
          refine (HW.out _ _ _ _).mono ?_
          rintro e w1 ⟨rfl, rfl⟩
          go_wp2_with fail
          go_ret2
          exact ⟨by rw [HP.out.1, HP.out.2]; rfl, Gr.alloc _ _⟩
end
end Go.Proofs.Ytlilojpnhmfnaaa
