/- Words for memory that the contracts of this seat share: growth of the world, slices of numbers, lists of lists, clashes. Nothing of the program is proved here. -/
import Derived.WalkKit
import Derived.Deep.Draws
import Derived.Lib.Hide
namespace Go.Proofs.Ytlilojpnhmfnaaa
open Go.RowKit

/-- The world has only grown: whatever lay lies as it lay. -/
def Gr (w w' : World) : Prop := Below w.heap.size w w'

theorem Gr.refl (w : World) : Gr w w := Below.refl _ _
theorem Gr.trans {a b c : World} (h : Gr a b) (k : Gr b c) : Gr a c := Below.trans h (Below.mono k (Below.size h))
theorem Gr.drewN (w : World) (n : Nat) : Gr w (w.drewN n) := ⟨rfl, rfl, rfl, Nat.le_refl _, fun _ _ => rfl⟩
theorem Gr.drew (w : World) : Gr w w.drew := Below.drew (Below.refl _ _)
theorem Gr.alloc (w : World) (o : Obj) : Gr w (w.alloc o) := Below.alloc (Below.refl _ _) (Nat.le_refl _) o
theorem Gr.size {a b : World} (h : Gr a b) : a.heap.size ≤ b.heap.size := Below.size h
theorem Gr.below {a b : World} (h : Gr a b) : Below a.heap.size a b := h
theorem Gr.cell {a b : World} (h : Gr a b) {p : Addr} (hp : p.block < a.heap.size) : b.cell? p = a.cell? p := Below.cell h hp
theorem Gr.frozen {a b : World} (h : Gr a b) {p : Addr} (hp : p.block < a.heap.size) : b.frozen? p = a.frozen? p := Below.frozen h hp
theorem Gr.setCell {a b : World} (h : Gr a b) {p : Addr} (hp : a.heap.size ≤ p.block) (u : Value) : Gr a (b.setCell p u) := Below.setCell h hp u
theorem Gr.allocR {a b : World} (h : Gr a b) (o : Obj) : Gr a (b.alloc o) := h.trans (Gr.alloc _ _)
theorem Gr.drewR {a b : World} (h : Gr a b) : Gr a b.drew := h.trans (Gr.drew _)
theorem Gr.drewNR {a b : World} (h : Gr a b) (n : Nat) : Gr a (b.drewN n) := h.trans (Gr.drewN _ _)

theorem add_block (a : Addr) (n : Nat) : (a.add n).block = a.block := by unfold Addr.add; split <;> rfl

/-- The slice value with address a and length n holds the numbers xs. -/
def Ints (w : World) (a : Option Addr) (n : Nat) (xs : List Int) : Prop :=
  xs.length = n ∧ n < 1152921504606846976 ∧ ∀ j, j < n → ∃ ad, a = some ad ∧ ad.block < w.heap.size ∧ w.cell? (ad.add j) = some (.int .i64 (xs[j]?.getD 0))

theorem Ints.len {w : World} {a : Option Addr} {n : Nat} {xs : List Int} (h : Ints w a n xs) : xs.length = n := h.1
theorem Ints.lt {w : World} {a : Option Addr} {n : Nat} {xs : List Int} (h : Ints w a n xs) : n < 1152921504606846976 := h.2.1
theorem Ints.at {w : World} {a : Option Addr} {n : Nat} {xs : List Int} (h : Ints w a n xs) {j : Nat} (hj : j < n) : ∃ ad, a = some ad ∧ ad.block < w.heap.size ∧ w.cell? (ad.add j) = some (.int .i64 (xs[j]?.getD 0)) := h.2.2 j hj
theorem Ints.gr {w w' : World} {a : Option Addr} {n : Nat} {xs : List Int} (h : Ints w a n xs) (g : Gr w w') : Ints w' a n xs :=
  ⟨h.1, h.2.1, fun j hj => by
    obtain ⟨ad, e, hb, hc⟩ := h.2.2 j hj
    exact ⟨ad, e, Nat.lt_of_lt_of_le hb g.size, (g.cell (by rw [add_block]; exact hb)).trans hc⟩⟩

/-- The slice value with address a and length n holds slices that hold the lists L. -/
def RowsAt (w : World) (a : Option Addr) (n : Nat) (L : List (List Int)) : Prop :=
  L.length = n ∧ n < 1152921504606846976 ∧ ∀ j, j < n → ∃ ad a' n' c', a = some ad ∧ ad.block < w.heap.size ∧ w.cell? (ad.add j) = some (.slice a' n' c') ∧ Ints w a' n' (L[j]?.getD [])

theorem RowsAt.len {w : World} {a : Option Addr} {n : Nat} {L : List (List Int)} (h : RowsAt w a n L) : L.length = n := h.1
theorem RowsAt.lt {w : World} {a : Option Addr} {n : Nat} {L : List (List Int)} (h : RowsAt w a n L) : n < 1152921504606846976 := h.2.1
theorem RowsAt.at {w : World} {a : Option Addr} {n : Nat} {L : List (List Int)} (h : RowsAt w a n L) {j : Nat} (hj : j < n) :
    ∃ ad a' n' c', a = some ad ∧ ad.block < w.heap.size ∧ w.cell? (ad.add j) = some (.slice a' n' c') ∧ Ints w a' n' (L[j]?.getD []) := h.2.2 j hj
theorem RowsAt.gr {w w' : World} {a : Option Addr} {n : Nat} {L : List (List Int)} (h : RowsAt w a n L) (g : Gr w w') : RowsAt w' a n L :=
  ⟨h.1, h.2.1, fun j hj => by
    obtain ⟨ad, a', n', c', e, hb, hc, hi⟩ := h.2.2 j hj
    exact ⟨ad, a', n', c', e, Nat.lt_of_lt_of_le hb g.size, (g.cell (by rw [add_block]; exact hb)).trans hc, hi.gr g⟩⟩

/-- A clash: A, VersionA, B, VersionB. -/
structure Cl where
  a : Int
  va : Int
  b : Int
  vb : Int
instance : Inhabited Cl := ⟨⟨0, 0, 0, 0⟩⟩

def ClAt (w : World) (a : Option Addr) (n : Nat) (C : List Cl) : Prop :=
  C.length = n ∧ n < 1152921504606846976 ∧ ∀ j, j < n → ∃ ad, a = some ad ∧ ad.block < w.heap.size ∧
    w.cell? (ad.add (j * 4)) = some (.int .i64 (C[j]?.getD default).a) ∧ w.cell? ⟨(ad.add (j * 4)).block, (ad.add (j * 4)).off + 1, none⟩ = some (.int .i64 (C[j]?.getD default).va) ∧
    w.cell? ⟨(ad.add (j * 4)).block, (ad.add (j * 4)).off + 2, none⟩ = some (.int .i64 (C[j]?.getD default).b) ∧ w.cell? ⟨(ad.add (j * 4)).block, (ad.add (j * 4)).off + 3, none⟩ = some (.int .i64 (C[j]?.getD default).vb)

theorem ClAt.len {w : World} {a : Option Addr} {n : Nat} {C : List Cl} (h : ClAt w a n C) : C.length = n := h.1
theorem ClAt.lt {w : World} {a : Option Addr} {n : Nat} {C : List Cl} (h : ClAt w a n C) : n < 1152921504606846976 := h.2.1
theorem ClAt.at {w : World} {a : Option Addr} {n : Nat} {C : List Cl} (h : ClAt w a n C) {j : Nat} (hj : j < n) : ∃ ad, a = some ad ∧ ad.block < w.heap.size ∧
    w.cell? (ad.add (j * 4)) = some (.int .i64 (C[j]?.getD default).a) ∧ w.cell? ⟨(ad.add (j * 4)).block, (ad.add (j * 4)).off + 1, none⟩ = some (.int .i64 (C[j]?.getD default).va) ∧
    w.cell? ⟨(ad.add (j * 4)).block, (ad.add (j * 4)).off + 2, none⟩ = some (.int .i64 (C[j]?.getD default).b) ∧ w.cell? ⟨(ad.add (j * 4)).block, (ad.add (j * 4)).off + 3, none⟩ = some (.int .i64 (C[j]?.getD default).vb) := h.2.2 j hj
theorem ClAt.gr {w w' : World} {a : Option Addr} {n : Nat} {C : List Cl} (h : ClAt w a n C) (g : Gr w w') : ClAt w' a n C :=
  ⟨h.1, h.2.1, fun j hj => by
    obtain ⟨ad, e, hb, h0, h1, h2, h3⟩ := h.2.2 j hj
    exact ⟨ad, e, Nat.lt_of_lt_of_le hb g.size, (g.cell (by rw [add_block]; exact hb)).trans h0, (g.cell (by show (ad.add _).block < _; rw [add_block]; exact hb)).trans h1,
      (g.cell (by show (ad.add _).block < _; rw [add_block]; exact hb)).trans h2, (g.cell (by show (ad.add _).block < _; rw [add_block]; exact hb)).trans h3⟩⟩

/-- A fleet as data. -/
structure Fl where
  times : List (List Int)
  cl : List Cl

/-- The fleet value, its two slices, in memory. -/
structure FlAt (w : World) (ta : Option Addr) (tn : Nat) (ca : Option Addr) (cn : Nat) (f : Fl) : Prop where
  t : RowsAt w ta tn f.times
  c : ClAt w ca cn f.cl

theorem FlAt.gr {w w' : World} {ta : Option Addr} {tn : Nat} {ca : Option Addr} {cn : Nat} {f : Fl} (h : FlAt w ta tn ca cn f) (g : Gr w w') : FlAt w' ta tn ca cn f := ⟨h.t.gr g, h.c.gr g⟩

theorem ret_int {k : IntKind} {a b : Int} (h : a = b) : Ending.returned (.int k a) = .returned (.int k b) := by rw [h]
theorem ret_bool {a b : Bool} (h : a = b) : Ending.returned (.bool a) = .returned (.bool b) := by rw [h]
end Go.Proofs.Ytlilojpnhmfnaaa
