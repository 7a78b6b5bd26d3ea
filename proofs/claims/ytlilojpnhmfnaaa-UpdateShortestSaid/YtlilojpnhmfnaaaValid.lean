/- Plain words: when a fleet and a state are valid, as tests. -/
import Derived.Test.YtlilojpnhmfnaaaClash
namespace Go.Proofs.Ytlilojpnhmfnaaa

def rowOk (l : List Int) : Bool := decide (l.length ≤ 3) && !(l.any fun n => !withinB n 1 10000)
def clOk (T : List (List Int)) (c : Cl) : Bool := !(c.a == c.b) && verB T c.a c.va && verB T c.b c.vb
def chkB (f : Fl) : Bool := withinB f.times.length 1 6 && decide (f.cl.length ≤ 60) && (List.range f.times.length).all (fun i => rowOk (f.times[i]?.getD [])) && (List.range f.cl.length).all (fun i => clOk f.times (f.cl[i]?.getD default))
def chkE (f : Fl) : Int := if chkB f then 0 else 110

theorem chkE_head {f : Fl} (h : withinB f.times.length 1 6 = false ∨ 60 < f.cl.length) : chkE f = 110 := by
  have : chkB f = false := by
    rcases h with h | h
    · simp [chkB, h]
    · simp [chkB, show ¬ f.cl.length ≤ 60 by omega]
  simp [chkE, this]
theorem chkE_row {f : Fl} {k : Nat} (hk : k < f.times.length) (h : rowOk (f.times[k]?.getD []) = false) : chkE f = 110 := by
  have : (List.range f.times.length).all (fun i => rowOk (f.times[i]?.getD [])) = false := by
    rw [Bool.eq_false_iff]; intro hc
    rw [List.all_eq_true] at hc
    have := hc k (List.mem_range.2 hk)
    rw [h] at this; cases this
  simp only [chkE, chkB, this, Bool.and_false, Bool.false_and, Bool.false_eq_true, if_false]
theorem chkE_cl {f : Fl} {k : Nat} (hk : k < f.cl.length) (h : clOk f.times (f.cl[k]?.getD default) = false) : chkE f = 110 := by
  have : (List.range f.cl.length).all (fun i => clOk f.times (f.cl[i]?.getD default)) = false := by
    rw [Bool.eq_false_iff]; intro hc
    rw [List.all_eq_true] at hc
    have := hc k (List.mem_range.2 hk)
    rw [h] at this; cases this
  simp only [chkE, chkB, this, Bool.and_false, Bool.false_eq_true, if_false]
theorem chkE_ok {f : Fl} (h1 : withinB f.times.length 1 6 = true) (h2 : f.cl.length ≤ 60) (h3 : ∀ j, j < f.times.length → rowOk (f.times[j]?.getD []) = true) (h4 : ∀ j, j < f.cl.length → clOk f.times (f.cl[j]?.getD default) = true) : chkE f = 0 := by
  have e3 : (List.range f.times.length).all (fun i => rowOk (f.times[i]?.getD [])) = true := by
    rw [List.all_eq_true]; intro x hx; exact h3 x (List.mem_range.1 hx)
  have e4 : (List.range f.cl.length).all (fun i => clOk f.times (f.cl[i]?.getD default)) = true := by
    rw [List.all_eq_true]; intro x hx; exact h4 x (List.mem_range.1 hx)
  simp only [chkE, chkB, h1, e3, e4, Bool.and_true, if_true, Bool.true_and, decide_eq_true_eq, h2]

theorem withinB_iff {n lo hi : Int} : withinB n lo hi = true ↔ lo ≤ n ∧ n ≤ hi := by simp [withinB]

theorem any_getD {l : List Int} {p : Int → Bool} (h : l.any p = false) : ∀ v, v < l.length → p (l[v]?.getD 0) = false := by
  intro v hv
  rw [List.any_eq_false] at h
  have := h (l[v]) (List.getElem_mem hv)
  simpa [hv] using this

theorem chkB_ok {f : Fl} (h : chkB f = true) : FlOk f := by
  simp only [chkB, Bool.and_eq_true, decide_eq_true_eq, List.all_eq_true, List.mem_range] at h
  obtain ⟨⟨⟨h1, h2⟩, h3⟩, h4⟩ := h
  rw [withinB_iff] at h1
  refine ⟨by omega, by omega, fun c hc => ?_, fun c v hc hv => ?_, h2, fun i hi => ?_⟩
  · have := h3 c hc
    simp only [rowOk, Bool.and_eq_true, decide_eq_true_eq] at this
    exact this.1
  · have := h3 c hc
    simp only [rowOk, Bool.and_eq_true, decide_eq_true_eq, Bool.not_eq_true'] at this
    have := any_getD this.2 v hv
    simp only [Bool.not_eq_false'] at this
    exact withinB_iff.1 this
  · have := h4 i hi
    simp only [clOk, Bool.and_eq_true, Bool.not_eq_true', beq_eq_false_iff_ne] at this
    exact ⟨this.1.2, this.2, this.1.1⟩

/-- a state is one of a fleet's -/
def stB (T : List (List Int)) (s : List Int) : Bool := decide (s.length = T.length) && (List.range s.length).all fun c => verB T c (s[c]?.getD 0)

theorem stB_ok {f : Fl} {s : List Int} (h : stB f.times s = true) : StOk f s := by
  simp only [stB, Bool.and_eq_true, decide_eq_true_eq, List.all_eq_true, List.mem_range] at h
  refine ⟨h.1, fun c hc => ?_⟩
  have := verB_in (h.2 c (by omega))
  simp only [Int.toNat_natCast] at this
  exact ⟨this.2.2.1, this.2.2.2⟩
theorem stB_len {T : List (List Int)} {s : List Int} (h : ¬ s.length = T.length) : stB T s = false := by simp [stB, h]
theorem stB_at {T : List (List Int)} {s : List Int} {k : Nat} (hk : k < s.length) (h : verB T k (s[k]?.getD 0) = false) : stB T s = false := by
  have : (List.range s.length).all (fun c => verB T c (s[c]?.getD 0)) = false := by
    rw [Bool.eq_false_iff]; intro hc
    rw [List.all_eq_true] at hc
    have := hc k (List.mem_range.2 hk)
    rw [h] at this; cases this
  simp only [stB, this, Bool.and_false]
theorem stB_true {T : List (List Int)} {s : List Int} (h1 : s.length = T.length) (h2 : ∀ c, c < s.length → verB T c (s[c]?.getD 0) = true) : stB T s = true := by
  simp only [stB, Bool.and_eq_true, decide_eq_true_eq, List.all_eq_true, List.mem_range]; exact ⟨h1, h2⟩
end Go.Proofs.Ytlilojpnhmfnaaa
