/- The closures of states: all of them. -/
import Derived.Test.YtlilojpnhmfnaaaNextD
namespace Go.Proofs.Ytlilojpnhmfnaaa
open Go.RowKit

theorem next_any (q : NP) (Y : Nat → Prop) (J : List (List Int) → World → Prop) (Jx : World → Prop) (all : List (List Int)) (H : NHyp q Y J Jx all) : ∀ (k : Nat) (pre : List Int) (done rest : List (List Int)) (W : World),
    pre.length + k = q.n → (∀ c, c < pre.length → 0 ≤ pre[c]?.getD 0 ∧ pre[c]?.getD 0 ≤ ((q.f.times[c]?.getD []).length : Int)) → NEnv q W → Buf q W pre → J done W → all = done ++ (enum q.f q.lo q.hi k pre ++ rest) →
    Calls Try.prog 91 #[.slice (some ⟨q.p, 0, none⟩) pre.length q.n, .pointer (some ⟨q.bfr, 0, none⟩), .pointer (some ⟨q.bfl, 0, none⟩), .pointer (some ⟨q.by_, 0, none⟩), .pointer (some ⟨q.bto, 0, none⟩), .pointer (some ⟨q.bn, 0, none⟩)] W
      (NPost q J Jx pre (done ++ enum q.f q.lo q.hi k pre)) := by
  intro k
  induction k with
  | zero =>
    intro pre done rest W hl hv hE hB hJ hall
    have hl' : pre.length = q.n := by omega
    have := next_leaf q Y J Jx all H pre done rest W hl' ⟨by rw [hl', H.nt], fun c hc => hv c (by rw [hl', H.nt]; exact hc)⟩ hE hB hJ hall
    rw [hl']
    exact this
  | succ k ih =>
    intro pre done rest W hl hv hE hB hJ hall
    refine next_step q Y J Jx all H k pre done rest W (fun v done rest W hvv hE hB hJ hall => ?_) hl hE hB hJ hall
    have := ih (pre ++ [v]) done rest W (by simp; omega) (fun c hc => ?_) hE hB hJ hall
    · simpa using this
    · by_cases e : c = pre.length
      · subst e; simpa using hvv
      · have hc' : c < pre.length := by simp at hc; omega
        rw [List.getElem?_append_left hc']
        exact hv c hc'

/-- what the iterator leaves: it went through, or it was stopped -/
def SPost (J : List (List Int) → World → Prop) (Jx : World → Prop) (all : List (List Int)) (e : Ending) (W' : World) : Prop := (∃ v, e = .returned v) ∧ (J all W' ∨ Jx W')

/-- the data that the iterator reads, in the world where it was made, and what may have turned since -/
structure SBase (wB : World) (S : Nat → Prop) (f : Fl) (ta : Option Addr) (tn : Nat) (ca : Option Addr) (cn : Nat) (fa toa : Option Addr) (n : Nat) (lo hi : List Int) : Prop where
  ok : FlOk f
  fl : FlAt wB ta tn ca cn f
  ilo : Ints wB fa n lo
  ihi : Ints wB toa n hi
  noc : NoCells S wB
  new : ∀ b, wB.heap.size ≤ b → S b
  n1 : 1 ≤ n
  nt : n = f.times.length
  lo0 : ∀ c, c < n → 0 ≤ lo[c]?.getD 0
  hi1 : ∀ c, c < n → hi[c]?.getD 0 ≤ ((f.times[c]?.getD []).length : Int)

structure R3 (q : NP) (J : List (List Int) → World → Prop) (Jx : World → Prop) (all : List (List Int)) (w2 : World) (done : Nat → Bool) (u : Nat → Value) (W : World) : Prop where
  gr : done 4 = false → Gr w2 W
  sz : done 3 = false → W.heap.size = w2.heap.size
  buf : done 4 = false → done 3 = true → Buf q W [] ∧ q.p < W.heap.size
  fin : done 4 = true → J all W ∨ Jx W

theorem R3.quiet {q : NP} {J : List (List Int) → World → Prop} {Jx : World → Prop} {all : List (List Int)} {w2 : World} {done : Nat → Bool} {u : Nat → Value} {W : World} (h : R3 q J Jx all w2 done u W) {i : Nat} (hi : i < 3) (x : Value) :
    R3 q J Jx all w2 (upd done i) (fun j => if j = i then x else u j) W := by
  have e3 : (3 : Nat) ≠ i := by omega
  have e4 : (4 : Nat) ≠ i := by omega
  refine ⟨?_, ?_, ?_, ?_⟩ <;> simp only [upd_ne e3, upd_ne e4]
  · exact h.gr
  · exact h.sz
  · exact h.buf
  · exact h.fin
end Go.Proofs.Ytlilojpnhmfnaaa
