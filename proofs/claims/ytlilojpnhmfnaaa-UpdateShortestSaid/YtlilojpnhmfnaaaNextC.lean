/- The closure of states: one step. -/
import Derived.Test.YtlilojpnhmfnaaaNextB
import Derived.Test.YtlilojpnhmfnaaaKn
namespace Go.Proofs.Ytlilojpnhmfnaaa
open Go.RowKit

/-- what has come of the versions below i -/
def enumTo (f : Fl) (lo hi : List Int) (k : Nat) (pre : List Int) (i : Nat) : List (List Int) := (List.range i).flatMap fun (j : Nat) => enum f lo hi k (pre ++ [lo[pre.length]?.getD 0 + (j : Int)])

theorem enumTo_succ (f : Fl) (lo hi : List Int) (k : Nat) (pre : List Int) (i : Nat) : enumTo f lo hi k pre (i + 1) = enumTo f lo hi k pre i ++ enum f lo hi k (pre ++ [lo[pre.length]?.getD 0 + (i : Int)]) := by
  simp [enumTo, List.range_succ]
theorem enum_split (f : Fl) (lo hi : List Int) (k : Nat) (pre : List Int) (i : Nat) (h : i < (hi[pre.length]?.getD 0 - lo[pre.length]?.getD 0 + 1).toNat) :
    ∃ r, enum f lo hi (k + 1) pre = enumTo f lo hi k pre i ++ (enum f lo hi k (pre ++ [lo[pre.length]?.getD 0 + (i : Int)]) ++ r) := by
  show ∃ r, enumTo f lo hi k pre _ = _
  generalize (hi[pre.length]?.getD 0 - lo[pre.length]?.getD 0 + 1).toNat = m at h
  induction m with
  | zero => omega
  | succ m ih =>
    by_cases e : i = m
    · subst e; exact ⟨[], by rw [enumTo_succ]; simp⟩
    · obtain ⟨r, hr⟩ := ih (by omega)
      exact ⟨r ++ enum f lo hi k (pre ++ [lo[pre.length]?.getD 0 + (m : Int)]), by rw [enumTo_succ, hr]; simp⟩

def StepOut (q : NP) (J : List (List Int) → World → Prop) (Jx : World → Prop) (pre : List Int) (done : List (List Int)) (W' : World) (b : Bool) : Prop :=
  (b = true ∧ J done W' ∧ NEnv q W' ∧ Buf q W' pre) ∨ (b = false ∧ Jx W')

/-- the new number as a slice of its own -/
def StepOne (w W' : World) (v : Int) (x : Value) : Prop := ∃ g, x = .slice (some ⟨g, 0, none⟩) 1 1 ∧ w.heap.size ≤ g ∧ W'.cell? ⟨g, 0, none⟩ = some (.int .i64 v)

structure R7 (q : NP) (J : List (List Int) → World → Prop) (Jx : World → Prop) (pre : List Int) (out : List (List Int)) (wr : World) (v : Int) (done : Nat → Bool) (u : Nat → Value) (W : World) : Prop where
  only : done 5 = false → Only (fun b => b = q.p) wr W
  gr : done 4 = false → Gr wr W
  one : done 4 = false → done 3 = true → StepOne wr W v (u 3)
  buf : done 5 = false → done 4 = true → Buf q W (pre ++ [v])
  fin : done 5 = true → ∃ b, u 5 = .bool b ∧ StepOut q J Jx pre out W b ∧ (done 6 = true → u 6 = .bool (!b))

theorem R7.quiet {q : NP} {J : List (List Int) → World → Prop} {Jx : World → Prop} {pre : List Int} {out : List (List Int)} {wr : World} {v : Int} {done : Nat → Bool} {u : Nat → Value} {W : World} (h : R7 q J Jx pre out wr v done u W) {i : Nat} (hi : i < 3) (x : Value) :
    R7 q J Jx pre out wr v (upd done i) (fun j => if j = i then x else u j) W := by
  have e3 : (3 : Nat) ≠ i := by omega
  have e4 : (4 : Nat) ≠ i := by omega
  have e5 : (5 : Nat) ≠ i := by omega
  have e6 : (6 : Nat) ≠ i := by omega
  refine ⟨?_, ?_, ?_, ?_, ?_⟩ <;> simp only [upd_ne e3, upd_ne e4, upd_ne e5, upd_ne e6, if_neg e3, if_neg e5, if_neg e6]
  · exact h.only
  · exact h.gr
  · exact h.one
  · exact h.buf
  · exact h.fin
end Go.Proofs.Ytlilojpnhmfnaaa
