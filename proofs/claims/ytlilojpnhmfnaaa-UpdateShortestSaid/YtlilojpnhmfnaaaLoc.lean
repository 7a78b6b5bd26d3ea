/- Cells of a call's own, as a list; a region with one operation that writes. Nothing of the program is proved here. -/
import Derived.Test.YtlilojpnhmfnaaaRangeS
import Derived.Test.YtlilojpnhmfnaaaKn
namespace Go.Proofs.Ytlilojpnhmfnaaa
open Go.RowKit

theorem frozen_of_block {w w' : World} {a : Addr} (h : w'.heap[a.block]? = w.heap[a.block]?) : w'.frozen? a = w.frozen? a := by
  unfold World.frozen?
  rw [h]

/-- these cells hold these values and may be written -/
def LCells (w : World) (L : List (Addr × Value)) : Prop := ∀ p ∈ L, w.cell? p.1 = some p.2 ∧ w.frozen? p.1 = false
theorem LCells.only {S : Nat → Prop} {w w' : World} {L : List (Addr × Value)} (h : LCells w L) (g : Only S w w') (hs : ∀ p ∈ L, ¬ S p.1.block) : LCells w' L := fun p hp => by
  have h1 := h p hp
  have hlt := lt_cell h1.1
  exact ⟨g.cell h1.1 (hs p hp), (frozen_of_block (g.block _ hlt (hs p hp))).trans h1.2⟩
theorem LCells.onlyN {S : Nat → Prop} {w w' : World} {L : List (Addr × Value)} (h : LCells w L) (g : Only S w w') (hn : NoCells S w) : LCells w' L := h.only g (fun p hp hs => by
  obtain ⟨cs, t, fr, hb⟩ := cell_block (h p hp).1
  exact hn _ _ _ _ hs hb)
theorem LCells.gr {w w' : World} {L : List (Addr × Value)} (h : LCells w L) (g : Gr w w') : LCells w' L := fun p hp => by
  have h1 := h p hp
  exact ⟨(g.cell (lt_cell h1.1)).trans h1.1, (g.frozen (lt_cell h1.1)).trans h1.2⟩
theorem LCells.lt {w : World} {L : List (Addr × Value)} (h : LCells w L) : ∀ p ∈ L, p.1.block < w.heap.size := fun p hp => lt_cell (h p hp).1
theorem LCells.at {w : World} {L : List (Addr × Value)} (h : LCells w L) (i : Nat) {p : Addr × Value} (hp : L[i]? = some p) : w.cell? p.1 = some p.2 := (h p (List.mem_of_getElem? hp)).1
theorem LCells.fr {w : World} {L : List (Addr × Value)} (h : LCells w L) (i : Nat) {p : Addr × Value} (hp : L[i]? = some p) : w.frozen? p.1 = false := (h p (List.mem_of_getElem? hp)).2

/-- operation i alone writes: before it the world is as it was -/
structure Tail (i : Nat) (w : World) (P : World → Prop) (done : Nat → Bool) (W : World) : Prop where
  before : done i = false → W = w.drew
  after : done i = true → P W
theorem Tail.start {i : Nat} {w : World} {P : World → Prop} : Tail i w P (fun _ => false) w.drew := ⟨fun _ => rfl, fun h => by cases h⟩
theorem Tail.quiet {i : Nat} {w W : World} {P : World → Prop} {done : Nat → Bool} (h : Tail i w P done W) {j : Nat} (hj : i ≠ j) : Tail i w P (upd done j) W := by
  refine ⟨?_, ?_⟩ <;> simp only [upd_ne hj]
  · exact h.before
  · exact h.after
theorem Tail.done {i : Nat} {w W : World} {P : World → Prop} {d : Nat → Bool} (h : P W) : Tail i w P (upd d i) W := ⟨(fun h => by rw [upd_self] at h; cases h), fun _ => h⟩
end Go.Proofs.Ytlilojpnhmfnaaa
