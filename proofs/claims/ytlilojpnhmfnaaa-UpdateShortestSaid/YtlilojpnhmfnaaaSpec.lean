/- Plain words for chapter 11: times of steps, valid fleets and states, clashes. No program in sight. -/
import Derived.Test.YtlilojpnhmfnaaaBase
namespace Go.Proofs.Ytlilojpnhmfnaaa

/-- the time of version v of computer c -/
def tm (T : List (List Int)) (c : Nat) (v : Int) : Int := (T[c]?.getD [])[v.toNat - 1]?.getD 0

/-- no number of xs is below that of ys -/
def aboveV (xs ys : List Int) : Bool := (List.range xs.length).all fun i => decide (ys[i]?.getD 0 ≤ xs[i]?.getD 0)

theorem aboveV_true {xs ys : List Int} {n : Nat} (hn : xs.length = n) (h : ∀ j, j < n → ys[j]?.getD 0 ≤ xs[j]?.getD 0) : aboveV xs ys = true := by
  subst hn; simp only [aboveV, List.all_eq_true, List.mem_range, decide_eq_true_eq]; exact h
theorem aboveV_false {xs ys : List Int} {n k : Nat} (hn : xs.length = n) (hk : k < n) (h : xs[k]?.getD 0 < ys[k]?.getD 0) : aboveV xs ys = false := by
  subst hn
  rw [Bool.eq_false_iff]; intro hc
  simp only [aboveV, List.all_eq_true, List.mem_range, decide_eq_true_eq] at hc
  have := hc k hk; omega

/-- the time of a step, over the first k computers -/
def durTo (T : List (List Int)) (a b : List Int) : Nat → Int
  | 0 => 0
  | k + 1 => durTo T a b k + if b[k]?.getD 0 = a[k]?.getD 0 then 0 else tm T k (b[k]?.getD 0)
def dur (T : List (List Int)) (a b : List Int) : Int := durTo T a b b.length

/-- a computer has a version -/
def verB (T : List (List Int)) (c v : Int) : Bool := decide (0 ≤ c) && decide (c < T.length) && decide (0 ≤ v) && decide (v ≤ ((T[c.toNat]?.getD []).length : Int))

structure FlOk (f : Fl) : Prop where
  n1 : 1 ≤ f.times.length
  n6 : f.times.length ≤ 6
  row : ∀ c, c < f.times.length → (f.times[c]?.getD []).length ≤ 3
  time : ∀ c v, c < f.times.length → v < (f.times[c]?.getD []).length → 1 ≤ (f.times[c]?.getD [])[v]?.getD 0 ∧ (f.times[c]?.getD [])[v]?.getD 0 ≤ 10000
  cl60 : f.cl.length ≤ 60
  cl : ∀ i, i < f.cl.length → verB f.times (f.cl[i]?.getD default).a (f.cl[i]?.getD default).va = true ∧ verB f.times (f.cl[i]?.getD default).b (f.cl[i]?.getD default).vb = true ∧
    (f.cl[i]?.getD default).a ≠ (f.cl[i]?.getD default).b

structure StOk (f : Fl) (s : List Int) : Prop where
  len : s.length = f.times.length
  ver : ∀ c, c < f.times.length → 0 ≤ s[c]?.getD 0 ∧ s[c]?.getD 0 ≤ ((f.times[c]?.getD []).length : Int)

/-- no lower version -/
def Le (a b : List Int) : Prop := ∀ c, c < a.length → a[c]?.getD 0 ≤ b[c]?.getD 0

theorem tm_bd {f : Fl} (h : FlOk f) {c : Nat} (hc : c < f.times.length) {v : Int} (h1 : 1 ≤ v) (h2 : v ≤ ((f.times[c]?.getD []).length : Int)) : 1 ≤ tm f.times c v ∧ tm f.times c v ≤ 10000 := by
  unfold tm; exact h.time c (v.toNat - 1) hc (by omega)

theorem durTo_bd' {f : Fl} (h : FlOk f) {a b : List Int} (ha : ∀ c, c < f.times.length → 0 ≤ a[c]?.getD 0) (hb : StOk f b) :
    ∀ k, k ≤ f.times.length → (∀ c, c < k → a[c]?.getD 0 ≤ b[c]?.getD 0) → 0 ≤ durTo f.times a b k ∧ durTo f.times a b k ≤ 10000 * k := by
  intro k
  induction k with
  | zero => intro _ _; simp [durTo]
  | succ k ih =>
    intro hk hab
    have := ih (by omega) (fun c hc => hab c (by omega))
    simp only [durTo]
    split
    · omega
    · rename_i hne
      have h1 := ha k (by omega)
      have h2 := hab k (by omega)
      have h3 := (hb.ver k (by omega)).2
      have := tm_bd h (c := k) (by omega) (v := b[k]?.getD 0) (by omega) h3
      omega

theorem durTo_bd {f : Fl} (h : FlOk f) {a b : List Int} (ha : ∀ c, c < f.times.length → 0 ≤ a[c]?.getD 0) (hb : StOk f b) (hab : ∀ c, c < f.times.length → a[c]?.getD 0 ≤ b[c]?.getD 0) :
    ∀ k, k ≤ f.times.length → 0 ≤ durTo f.times a b k ∧ durTo f.times a b k ≤ 10000 * k := fun k hk => durTo_bd' h ha hb k hk (fun c hc => hab c (by omega))

theorem durTo_zero_iff {f : Fl} (h : FlOk f) {a b : List Int} (ha : ∀ c, c < f.times.length → 0 ≤ a[c]?.getD 0) (hb : StOk f b) (hab : ∀ c, c < f.times.length → a[c]?.getD 0 ≤ b[c]?.getD 0) :
    ∀ k, k ≤ f.times.length → (durTo f.times a b k = 0 ↔ ∀ c, c < k → b[c]?.getD 0 = a[c]?.getD 0) := by
  intro k
  induction k with
  | zero => intro _; simp [durTo]
  | succ k ih =>
    intro hk
    have hi := ih (by omega)
    have hd := durTo_bd h ha hb hab k (by omega)
    simp only [durTo]
    split
    · rename_i he
      constructor
      · intro h0 c hc
        by_cases e : c = k
        · subst e; exact he
        · exact hi.1 (by omega) c (by omega)
      · intro h0
        have := hi.2 (fun c hc => h0 c (by omega)); omega
    · rename_i hne
      have h1 := ha k (by omega)
      have h2 := hab k (by omega)
      have h3 := (hb.ver k (by omega)).2
      have := tm_bd h (c := k) (by omega) (v := b[k]?.getD 0) (by omega) h3
      constructor
      · intro h0; omega
      · intro h0; exact absurd (h0 k (by omega)) hne

/-- the time of the step from a to b; -1: it is none -/
def stepV (T : List (List Int)) (a b : List Int) : Int := if aboveV b a then (if dur T a b = 0 then -1 else dur T a b) else -1

/-- the first clash from k on that applies to a state -/
def applies (c : Cl) (s : List Int) : Bool := (s[c.a.toNat]?.getD 0 == c.va) && (s[c.b.toNat]?.getD 0 == c.vb)
def clashFrom (C : List Cl) (s : List Int) : Nat → Nat → Int
  | 0, _ => -1
  | m + 1, k => if applies (C[k]?.getD default) s then (k : Int) else clashFrom C s m (k + 1)
def clashI (f : Fl) (s : List Int) : Int := clashFrom f.cl s f.cl.length 0
def worksB (f : Fl) (s : List Int) : Bool := decide (clashI f s < 0)

theorem clashFrom_lt (C : List Cl) (s : List Int) : ∀ m k, -1 ≤ clashFrom C s m k ∧ clashFrom C s m k < (k + m : Nat) := by
  intro m
  induction m with
  | zero => intro k; simp [clashFrom]; omega
  | succ m ih =>
    intro k
    simp only [clashFrom]
    split
    · omega
    · have := ih (k + 1); omega
end Go.Proofs.Ytlilojpnhmfnaaa
