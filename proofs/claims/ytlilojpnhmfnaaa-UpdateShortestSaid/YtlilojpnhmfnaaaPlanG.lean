/- The planner: the contract of best. -/
import Derived.Test.YtlilojpnhmfnaaaPlanC
namespace Go.Proofs.Ytlilojpnhmfnaaa
open Go.RowKit

theorem best_any (q : PP) (H : PHyp q) : ∀ (k : Nat) (X : Nat → Prop) (s : List Int) (W : World) (a : Option Addr) (c : Nat), gap s q.to ≤ k → StOk q.f s → PInv q X W → Ints W a q.n s → (∀ b, X b → b < W.heap.size) →
    Calls Try.prog 49 #[.pointer (some ⟨q.bp, 0, none⟩), .slice a q.n c] W (BPost q X W s) := by
  intro k
  induction k with
  | zero =>
    intro X s W a c hk hst hI hs hX
    by_cases he : s = q.to
    · exact best_end q H X s W a c hI hs he
    · cases hna : aboveV q.to s with
      | false => exact best_not q H X s W a c hI hs he hna
      | true => exact absurd (above_gap_zero (by rw [hs.len, hI.ito.len]) hna (by omega)) he
  | succ k ih =>
    intro X s W a c hk hst hI hs hX
    by_cases he : s = q.to
    · exact best_end q H X s W a c hI hs he
    · cases hna : aboveV q.to s with
      | false => exact best_not q H X s W a c hI hs he hna
      | true =>
        refine best_main q H X s W a c hI hs hst he hna hX (fun X x w ad cx hsb hmem hsx hIw hxw hXw => ?_)
        rw [← hs.len] at hmem
        have hb := (enum_between hmem).1
        have hlt := gap_lt (hl := by rw [hs.len, hI.ito.len]) hb (stepsB_true hsb).2.1
        exact ih X x w (some ad) cx (by omega) hsx hIw hxw hXw
end Go.Proofs.Ytlilojpnhmfnaaa
