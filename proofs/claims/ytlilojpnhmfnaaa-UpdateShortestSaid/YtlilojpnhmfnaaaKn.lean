/- Values of the operations of a region that are known ahead. Nothing of the program is proved here. -/
import Derived.Test.YtlilojpnhmfnaaaAny
namespace Go.Proofs.Ytlilojpnhmfnaaa
open Go.RowKit

/-- where operation j has run and vs says its value, it is that -/
def Kn (vs : List (Option Value)) (done : Nat → Bool) (u : Nat → Value) : Prop := ∀ j x, vs[j]? = some (some x) → done j = true → u j = x
theorem Kn.get {vs : List (Option Value)} {done : Nat → Bool} {u : Nat → Value} (h : Kn vs done u) (j : Nat) {x : Value} (hv : vs[j]? = some (some x)) (hd : done j = true) : u j = x := h j x hv hd
theorem Kn.start (vs : List (Option Value)) (u : Nat → Value) : Kn vs (fun _ => false) u := fun _ _ _ h => by cases h
theorem Kn.new {vs : List (Option Value)} {done : Nat → Bool} {u : Nat → Value} (h : Kn vs done u) {i : Nat} {v : Value} (hv : vs[i]? = some (some v)) : Kn vs (upd done i) (fun j => if j = i then v else u j) := by
  intro j x hj hd
  by_cases e : j = i
  · subst e; rw [hv] at hj; simp at hj; simp [hj]
  · simp only [upd, if_neg e] at hd ⊢; exact h j x hj hd
theorem Kn.skip {vs : List (Option Value)} {done : Nat → Bool} {u : Nat → Value} (h : Kn vs done u) {i : Nat} {v : Value} (hv : vs[i]? = some none) : Kn vs (upd done i) (fun j => if j = i then v else u j) := by
  intro j x hj hd
  by_cases e : j = i
  · subst e; rw [hv] at hj; simp at hj
  · simp only [upd, if_neg e] at hd ⊢; exact h j x hj hd
/-- an operation that comes before one that has not run -/
theorem not_done {l : List Oper} {done : Nat → Bool} (hclo : ∀ j oj, l[j]? = some oj → done j = true → ∀ k ∈ anc l l.length (fore oj), done k = true) {i : Nat} (hd : done i = false) (j : Nat) {oj : Oper} (ho : l[j]? = some oj)
    (hc : (anc l l.length (fore oj)).contains i = true) : done j = false := by
  cases h : done j with
  | false => rfl
  | true => rw [hclo j _ ho h i (mem_of hc)] at hd; cases hd
end Go.Proofs.Ytlilojpnhmfnaaa
