/- Contract: states makes its iterator. -/
import Derived.Test.YtlilojpnhmfnaaaNextF
namespace Go.Proofs.Ytlilojpnhmfnaaa
open Go.RowKit

/-- the iterator and its three boxes -/
def NewIter (w : World) (va vb vc vd : Value) (e : Ending) (w' : World) : Prop :=
  e = .returned (.func (.func 90) #[] #[.pointer (some ⟨w.heap.size + 1, 0, none⟩), .pointer (some ⟨w.heap.size, 0, none⟩), .pointer (some ⟨w.heap.size + 2, 0, none⟩)]) ∧
    w' = ((w.alloc (.cells #[va, vb] 25)).alloc (.cells #[vc] 26)).alloc (.cells #[vd] 26)

theorem states_any (ta ca fa toa : Option Addr) (tn tc cn cc fn fc ton toc : Nat) (w : World) :
    Calls Try.prog 59 #[.agg #[.slice ta tn tc, .slice ca cn cc], .slice fa fn fc, .slice toa ton toc] w (NewIter w (.slice ta tn tc) (.slice ca cn cc) (.slice fa fn fc) (.slice toa ton toc)) := by
  go_enter Try.func59, Try.ntmps59
  go_wp2
  go_ret
  exact ⟨rfl, rfl⟩

theorem NewIter.facts {w w' : World} {va vb vc vd : Value} {e : Ending} (h : NewIter w va vb vc vd e w') : Gr w w' ∧ w'.heap.size = w.heap.size + 3 ∧ w'.cell? ⟨w.heap.size, 0, none⟩ = some va ∧ w'.cell? ⟨w.heap.size, 1, none⟩ = some vb ∧ w'.cell? ⟨w.heap.size + 1, 0, none⟩ = some vc ∧ w'.cell? ⟨w.heap.size + 2, 0, none⟩ = some vd := by
  obtain ⟨_, rfl⟩ := h
  have s1 : (w.alloc (.cells #[va, vb] 25)).heap.size = w.heap.size + 1 := by simp
  have s2 : ((w.alloc (.cells #[va, vb] 25)).alloc (.cells #[vc] 26)).heap.size = w.heap.size + 2 := by simp
  have g2 := (Gr.alloc (w.alloc (.cells #[va, vb] 25)) (.cells #[vc] 26)).allocR (.cells #[vd] 26)
  have g3 := Gr.alloc ((w.alloc (.cells #[va, vb] 25)).alloc (.cells #[vc] 26)) (.cells #[vd] 26)
  refine ⟨((Gr.alloc _ _).allocR _).allocR _, by simp, ?_, ?_, ?_, ?_⟩
  · exact (g2.cell (by simp)).trans (cell_new rfl)
  · exact (g2.cell (by simp)).trans (cell_new rfl)
  · rw [← s1]; exact (g3.cell (by simp)).trans (cell_new rfl)
  · rw [← s2]; exact cell_new rfl
end Go.Proofs.Ytlilojpnhmfnaaa
