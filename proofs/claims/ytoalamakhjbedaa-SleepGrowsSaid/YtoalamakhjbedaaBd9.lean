/- Several texts of this claim in one file. (1) Whoever has more tokens, or gets them sooner, or stays awake longer, can be kept awake in no fewer ticks. Nothing of the program is proved here. (2) Contracts: slices.ContainsFunc of nudges that are not right. (3) Contract: the beginning of a play. -/
import Derived.Test.YtoalamakhjbedaaBd8
import Derived.Test.YtoalamakhjbedaaBd2
import Derived.Test.YtoalamakhjbedaaBd3
namespace Go.Proofs.Ytoalamakhjbedaa
section
set_option linter.unusedVariables false
open Go.RowKit
theorem enF_succ (p : Nd) (m : Nat) (t x : Int) (r : Nat) : enF p (m + 1) t x r = if r = 0 then (if refV p t x = 0 then p.za + enF p m (t + 1) (refV p t x) 0 else max (p.za + enF p m (t + 1) (refV p t x) 0) (p.aw + enF p m (t + 1) (refV p t x - 1) p.hold.toNat))
    else if r = 1 then p.za + enF p m (t + 1) (refV p t x) 0 else p.aw + enF p m (t + 1) (refV p t x) (r - 1) := by rw [enF]
/-- one more tick -/
theorem enF_more {p : Nd} (h : p.za ≤ p.aw) : ∀ (m : Nat) (t x : Int) (r : Nat), p.za ≤ enF p (m + 1) t x r - enF p m t x r ∧ enF p (m + 1) t x r - enF p m t x r ≤ p.aw
  | 0, t, x, r => by
    simp only [enF]
    simp only [Int.max_def]
    split
    · split
      · omega
      · split <;> omega
    · split <;> omega
  | m + 1, t, x, r => by
    have i1 := enF_more h m (t + 1) (refV p t x) 0
    have i2 := enF_more h m (t + 1) (refV p t x - 1) p.hold.toNat
    have i3 := enF_more h m (t + 1) (refV p t x) (r - 1)
    rw [enF_succ p (m + 1) t x r, enF_succ p m t x r]
    simp only [Int.max_def]
    split
    · split
      · omega
      · split <;> split <;> omega
    · split <;> omega
/-- how many tokens came ahead of a tick -/
def Cnt (re t j : Int) : Prop := (t = 0 ∧ j = 0) ∨ (0 < t ∧ 0 ≤ j ∧ j * re < t ∧ t ≤ j * re + re)
theorem Cnt.yes {re t j : Int} (h : Cnt re t j) (hr : 1 ≤ re) (h0 : 0 < t) (hm : t % re = 0) : t = j * re + re ∧ Cnt re (t + 1) (j + 1) := by
  rcases h with h | ⟨_, hj, h1, h2⟩
  · omega
  · have e : t = re * (t / re) := by have := Int.mul_ediv_add_emod t re; omega
    generalize t / re = q at e
    have h3 : j < q := by
      refine Int.lt_of_mul_lt_mul_right (a := re) ?_ (by omega)
      rw [Int.mul_comm q]; omega
    have h4 : q < j + 2 := by
      refine Int.lt_of_mul_lt_mul_right (a := re) ?_ (by omega)
      rw [Int.mul_comm q, Int.add_mul]; omega
    obtain rfl : q = j + 1 := by omega
    have e2 : re * (j + 1) = j * re + re := by rw [Int.mul_comm, Int.add_mul, Int.one_mul]
    have e3 : (j + 1) * re = j * re + re := by rw [Int.add_mul, Int.one_mul]
    refine ⟨by omega, .inr ⟨by omega, by omega, ?_, ?_⟩⟩ <;> rw [e3] <;> omega
theorem Cnt.no {re t j : Int} (h : Cnt re t j) (hr : 1 ≤ re) (h0 : 0 ≤ t) (hm : ¬ (0 < t ∧ t % re = 0)) : Cnt re (t + 1) j := by
  rcases h with ⟨rfl, rfl⟩ | ⟨h3, hj, h1, h2⟩
  · exact .inr ⟨by omega, by omega, by omega, by omega⟩
  · refine .inr ⟨by omega, hj, by omega, ?_⟩
    refine Classical.byContradiction fun hc => hm ⟨h3, ?_⟩
    have e : t = (j + 1) * re := by rw [Int.add_mul, Int.one_mul]; omega
    rw [e]; exact Int.mul_emod_left _ _
theorem cnt_le {re re' t j j' : Int} (h : Cnt re t j) (h' : Cnt re' t j') (hr : 1 ≤ re') (hl : re' ≤ re) : j ≤ j' := by
  rcases h with ⟨rfl, rfl⟩ | ⟨h3, hj, h1, h2⟩
  · rcases h' with ⟨_, rfl⟩ | h'
    · omega
    · omega
  · rcases h' with h' | ⟨_, hj', h1', h2'⟩
    · omega
    · have h4 : j * re' ≤ j * re := Int.mul_le_mul_of_nonneg_left hl hj
      have h5 : j < j' + 1 := by
        refine Int.lt_of_mul_lt_mul_right (a := re') ?_ (by omega)
        rw [Int.add_mul, Int.one_mul]; omega
      omega
/-- the tokens of one who wakes as soon as may be -/
def Tk (q : Nd) (t x r W j : Int) : Prop :=
  (q.hold + 1 < q.re ∧ x + W = q.bu + j ∧ j ≤ W ∧ (W = j → t + r < j * q.re + q.re)) ∨ (q.re ≤ q.hold + 1 ∧ 0 ≤ x ∧ (1 ≤ x ∨ ∃ k : Int, 0 < k ∧ t ≤ k * q.re ∧ k * q.re ≤ t + r))
/-- two who play side by side -/
structure Two (p q : Nd) (t x r W c j x' r' W' c' j' : Int) : Prop where
  t0 : 0 ≤ t
  x0 : 0 ≤ x
  r0 : 0 ≤ r
  r1 : r ≤ p.hold
  r0' : 0 ≤ r'
  r1' : r' ≤ q.hold
  W0 : 0 ≤ W
  W0' : 0 ≤ W'
  le : c ≤ c'
  e : (r ≤ 1 ∧ c = W * p.hold) ∨ (2 ≤ r ∧ c + r - 1 = W * p.hold)
  e' : (r' ≤ 1 ∧ c' = W' * q.hold) ∨ (2 ≤ r' ∧ c' + r' - 1 = W' * q.hold)
  ph : W < W' ∨ (r = 0 ∧ r' = 0 ∧ W - W' ≤ c' - c) ∨ (r = 0 ∧ 1 ≤ r' ∧ W - W' + 1 ≤ c' - c) ∨ (1 ≤ r ∧ r' = 0 ∧ W - W' ≤ c' - c + 1) ∨ (1 ≤ r ∧ 1 ≤ r' ∧ W - W' ≤ c' - c)
  cn : Cnt p.re t j
  cn' : Cnt q.re t j'
  tk : x + W ≤ p.bu + j
  tk' : Tk q t x' r' W' j'
theorem two_arith {c c' A A' H H' W W' r r' ro rn co cn Wo Wn Ao An : Int} (k8 : c ≤ c') (k9 : (r ≤ 1 ∧ c = A) ∨ (2 ≤ r ∧ c + r - 1 = A)) (k10 : (r' ≤ 1 ∧ c' = A') ∨ (2 ≤ r' ∧ c' + r' - 1 = A'))
    (k11 : W < W' ∨ (r = 0 ∧ r' = 0 ∧ W - W' ≤ c' - c) ∨ (r = 0 ∧ 1 ≤ r' ∧ W - W' + 1 ≤ c' - c) ∨ (1 ≤ r ∧ r' = 0 ∧ W - W' ≤ c' - c + 1) ∨ (1 ≤ r ∧ 1 ≤ r' ∧ W - W' ≤ c' - c))
    (n1 : W ≤ W' → A ≤ A') (n2 : W + 1 ≤ W' → A + H ≤ A') (hH : 1 ≤ H) (hHH : 1 ≤ H')
    (ho : (r = 0 ∧ ro = 0 ∧ Wo = W ∧ co = c ∧ Ao = A) ∨ (r = 0 ∧ ro = H ∧ Wo = W + 1 ∧ co = c + 1 ∧ Ao = A + H) ∨ (r = 1 ∧ ro = 0 ∧ Wo = W ∧ co = c ∧ Ao = A) ∨ (2 ≤ r ∧ ro = r - 1 ∧ Wo = W ∧ co = c + 1 ∧ Ao = A))
    (hi : (r' = 0 ∧ rn = 0 ∧ Wn = W' ∧ cn = c' ∧ An = A' ∧ Wo ≤ W') ∨ (r' = 0 ∧ rn = H' ∧ Wn = W' + 1 ∧ cn = c' + 1 ∧ An = A' + H') ∨ (r' = 1 ∧ rn = 0 ∧ Wn = W' ∧ cn = c' ∧ An = A') ∨ (2 ≤ r' ∧ rn = r' - 1 ∧ Wn = W' ∧ cn = c' + 1 ∧ An = A')) :
    co ≤ cn ∧ ((ro ≤ 1 ∧ co = Ao) ∨ (2 ≤ ro ∧ co + ro - 1 = Ao)) ∧ ((rn ≤ 1 ∧ cn = An) ∨ (2 ≤ rn ∧ cn + rn - 1 = An)) ∧
    (Wo < Wn ∨ (ro = 0 ∧ rn = 0 ∧ Wo - Wn ≤ cn - co) ∨ (ro = 0 ∧ 1 ≤ rn ∧ Wo - Wn + 1 ≤ cn - co) ∨ (1 ≤ ro ∧ rn = 0 ∧ Wo - Wn ≤ cn - co + 1) ∨ (1 ≤ ro ∧ 1 ≤ rn ∧ Wo - Wn ≤ cn - co)) := by
  have e9 : (r ≤ 1 → c = A) ∧ (2 ≤ r → c + r - 1 = A) := by omega
  have e10 : (r' ≤ 1 → c' = A') ∧ (2 ≤ r' → c' + r' - 1 = A') := by omega
  clear k9 k10
  obtain ⟨e9, f9⟩ := e9
  obtain ⟨e10, f10⟩ := e10
  rcases ho with ⟨o1, rfl, rfl, rfl, rfl⟩ | ⟨o1, rfl, rfl, rfl, rfl⟩ | ⟨o1, rfl, rfl, rfl, rfl⟩ | ⟨o1, rfl, rfl, rfl, rfl⟩
  · have a1 := e9 (by omega)
    clear e9 f9
    rcases hi with ⟨i1, rfl, rfl, rfl, rfl, i5⟩ | ⟨i1, rfl, rfl, rfl, rfl⟩ | ⟨i1, rfl, rfl, rfl, rfl⟩ | ⟨i1, rfl, rfl, rfl, rfl⟩
    · have a2 := e10 (by omega); clear e10 f10; refine ⟨?_, ?_, ?_, ?_⟩ <;> omega
    · have a2 := e10 (by omega); clear e10 f10; refine ⟨?_, ?_, ?_, ?_⟩ <;> omega
    · have a2 := e10 (by omega); clear e10 f10; refine ⟨?_, ?_, ?_, ?_⟩ <;> omega
    · have a2 := f10 (by omega); clear e10 f10; refine ⟨?_, ?_, ?_, ?_⟩ <;> omega
  · have a1 := e9 (by omega)
    clear e9 f9
    rcases hi with ⟨i1, rfl, rfl, rfl, rfl, i5⟩ | ⟨i1, rfl, rfl, rfl, rfl⟩ | ⟨i1, rfl, rfl, rfl, rfl⟩ | ⟨i1, rfl, rfl, rfl, rfl⟩
    · have a2 := e10 (by omega); clear e10 f10; refine ⟨?_, ?_, ?_, ?_⟩ <;> omega
    · have a2 := e10 (by omega); clear e10 f10; refine ⟨?_, ?_, ?_, ?_⟩ <;> omega
    · have a2 := e10 (by omega); clear e10 f10; refine ⟨?_, ?_, ?_, ?_⟩ <;> omega
    · have a2 := f10 (by omega); clear e10 f10; refine ⟨?_, ?_, ?_, ?_⟩ <;> omega
  · have a1 := e9 (by omega)
    clear e9 f9
    rcases hi with ⟨i1, rfl, rfl, rfl, rfl, i5⟩ | ⟨i1, rfl, rfl, rfl, rfl⟩ | ⟨i1, rfl, rfl, rfl, rfl⟩ | ⟨i1, rfl, rfl, rfl, rfl⟩
    · have a2 := e10 (by omega); clear e10 f10; refine ⟨?_, ?_, ?_, ?_⟩ <;> omega
    · have a2 := e10 (by omega); clear e10 f10; refine ⟨?_, ?_, ?_, ?_⟩ <;> omega
    · have a2 := e10 (by omega); clear e10 f10; refine ⟨?_, ?_, ?_, ?_⟩ <;> omega
    · have a2 := f10 (by omega); clear e10 f10; refine ⟨?_, ?_, ?_, ?_⟩ <;> omega
  · have a1 := f9 (by omega)
    clear e9 f9
    rcases hi with ⟨i1, rfl, rfl, rfl, rfl, i5⟩ | ⟨i1, rfl, rfl, rfl, rfl⟩ | ⟨i1, rfl, rfl, rfl, rfl⟩ | ⟨i1, rfl, rfl, rfl, rfl⟩
    · have a2 := e10 (by omega); clear e10 f10; refine ⟨?_, ?_, ?_, ?_⟩ <;> omega
    · have a2 := e10 (by omega); clear e10 f10; refine ⟨?_, ?_, ?_, ?_⟩ <;> omega
    · have a2 := e10 (by omega); clear e10 f10; refine ⟨?_, ?_, ?_, ?_⟩ <;> omega
    · have a2 := f10 (by omega); clear e10 f10; refine ⟨?_, ?_, ?_, ?_⟩ <;> omega
structure Pq2 (p q : Nd) : Prop where
  a : p.aw = 1
  z : p.za = 0
  a' : q.aw = 1
  z' : q.za = 0
  h0 : 1 ≤ p.hold
  h : p.hold ≤ q.hold
  r : 1 ≤ q.re
  rr : q.re ≤ p.re
  b : p.bu ≤ q.bu
  b1 : 1 ≤ q.bu
/-- a token comes, or none -/
theorem ref_two {p : Nd} {t x W j : Int} (hr : 1 ≤ p.re) (hb : 0 ≤ p.bu) (ht : 0 ≤ t) (hx : 0 ≤ x) (hc : Cnt p.re t j) (h : x + W ≤ p.bu + j) : ∃ j2, Cnt p.re (t + 1) j2 ∧ refV p t x + W ≤ p.bu + j2 ∧ 0 ≤ refV p t x := by
  unfold refV
  by_cases e : 0 < t ∧ t % p.re = 0
  · rw [if_pos e]
    refine ⟨j + 1, (hc.yes hr e.1 e.2).2, ?_, ?_⟩ <;> simp only [Int.min_def] <;> split <;> omega
  · rw [if_neg e]
    exact ⟨j, hc.no hr ht e, h, hx⟩
/-- what the eager one does in a tick -/
theorem eager {q : Nd} (hh : 1 ≤ q.hold) (hr : 1 ≤ q.re) (hb : 1 ≤ q.bu) {t x r W j : Int} (ht : 0 ≤ t) (hr0 : 0 ≤ r) (hr1 : r ≤ q.hold) (hW : 0 ≤ W) (hc : Cnt q.re t j) (h : Tk q t x r W j) :
    ∃ j2, Cnt q.re (t + 1) j2 ∧ (1 ≤ r → Tk q (t + 1) (refV q t x) (r - 1) W j2) ∧ (r = 0 → ¬ refV q t x = 0 → Tk q (t + 1) (refV q t x - 1) q.hold (W + 1) j2) ∧
      (r = 0 → refV q t x = 0 → Tk q (t + 1) 0 0 W j2 ∧ q.bu + j2 = W) := by
  by_cases e : 0 < t ∧ t % q.re = 0
  · obtain ⟨et, hc2⟩ := hc.yes hr e.1 e.2
    have e3 : (j + 1) * q.re = j * q.re + q.re := by rw [Int.add_mul, Int.one_mul]
    refine ⟨j + 1, hc2, ?_⟩
    rcases h with ⟨h1, h2, h3, h4⟩ | ⟨h1, h0, h2⟩
    · have hW2 : j + 1 ≤ W := by
        by_cases hw : W = j
        · have := h4 hw; omega
        · omega
      have hx : refV q t x = x + 1 := by
        unfold refV
        rw [if_pos e]
        simp only [Int.min_def]; split <;> omega
      rw [hx]
      refine ⟨fun h5 => .inl ⟨h1, by omega, hW2, fun h6 => by rw [e3]; omega⟩, fun h5 h6 => .inl ⟨h1, by omega, by omega, fun h7 => by omega⟩, fun h5 h6 => ⟨.inl ⟨h1, by omega, hW2, fun h7 => by omega⟩, by omega⟩⟩
    · have hx : 1 ≤ refV q t x := by
        unfold refV
        rw [if_pos e]
        simp only [Int.min_def]; split <;> omega
      have hn : ∃ k : Int, 0 < k ∧ t + 1 ≤ k * q.re ∧ k * q.re ≤ t + 1 + q.hold := by
        have hj : 0 ≤ j := by rcases hc with hc | hc <;> omega
        exact ⟨j + 1 + 1, by omega, by rw [Int.add_mul, Int.one_mul, e3]; omega, by rw [Int.add_mul, Int.one_mul, e3]; omega⟩
      refine ⟨fun h5 => .inr ⟨h1, by omega, .inl hx⟩, fun h5 h6 => .inr ⟨h1, by omega, .inr hn⟩, fun h5 h6 => by omega⟩
  · have hc2 := hc.no hr ht e
    have hx : refV q t x = x := if_neg e
    rw [hx]
    refine ⟨j, hc2, ?_⟩
    rcases h with ⟨h1, h2, h3, h4⟩ | ⟨h1, h0, h2⟩
    · refine ⟨fun h5 => .inl ⟨h1, by omega, h3, fun h6 => by have := h4 h6; omega⟩, fun h5 h6 => .inl ⟨h1, by omega, by omega, fun h7 => by omega⟩, fun h5 h6 => ⟨.inl ⟨h1, by omega, h3, fun h7 => by omega⟩, by omega⟩⟩
    · have hk : ∀ k : Int, 0 < k → t ≤ k * q.re → ¬ k * q.re = t := fun k hk _ hk2 => by
        have : 1 * 1 ≤ k * q.re := Int.mul_le_mul (by omega) hr (by omega) (by omega)
        exact e ⟨by omega, by rw [← hk2]; exact Int.mul_emod_left _ _⟩
      have hn : ∃ k : Int, 0 < k ∧ t + 1 ≤ k * q.re ∧ k * q.re ≤ t + 1 + q.hold := by
        rcases hc2 with hc2 | ⟨_, hj, h5, h6⟩
        · omega
        · by_cases e2 : t + 1 ≤ j * q.re + q.re - 0
          · exact ⟨j + 1, by omega, by rw [Int.add_mul, Int.one_mul]; omega, by rw [Int.add_mul, Int.one_mul]; omega⟩
          · omega
      refine ⟨fun h5 => .inr ⟨h1, h0, ?_⟩, fun h5 h6 => .inr ⟨h1, by omega, .inr hn⟩, fun h5 h6 => ?_⟩
      · rcases h2 with h2 | ⟨k, h7, h8, h9⟩
        · exact .inl h2
        · have := hk k h7 h8
          exact .inr ⟨k, h7, by omega, by omega⟩
      · rcases h2 with h2 | ⟨k, h7, h8, h9⟩
        · omega
        · have := hk k h7 h8
          omega

theorem two_le {p q : Nd} (H : Pq2 p q) (hb0 : 0 ≤ p.bu) : ∀ (m : Nat) (t x : Int) (r : Nat) (W c j x' : Int) (r' : Nat) (W' c' j' : Int), Two p q t x r W c j x' r' W' c' j' → enF p m t x r + c ≤ enF q m t x' r' + c'
  | 0, t, x, r, W, c, j, x', r', W', c', j', h => by
    have := h.le
    simp only [enF]; omega
  | m + 1, t, x, r, W, c, j, x', r', W', c', j', h => by
    have ha := H.a
    have hz := H.z
    have ha' := H.a'
    have hz' := H.z'
    have hh0 := H.h0
    have hhq := H.h
    have hrq := H.r
    have hrr := H.rr
    have hbq := H.b
    have hb1 := H.b1
    obtain ⟨k0, k1, k2, k3, k4, k5, k6, k7, k8, k9, k10, k11, k12, k13, k14, k15⟩ := h
    obtain ⟨j2, c2, y1, y2⟩ := ref_two (p := p) (W := W) (by omega) hb0 k0 k1 k12 k14
    obtain ⟨j2', c2', g1, g2, g3⟩ := eager (q := q) (by omega) hrq hb1 k0 k4 k5 k7 k13 k15
    have hjj := cnt_le c2 c2' hrq hrr
    have ih := two_le H hb0 m (t + 1)
    -- products
    have m1 : (W + 1) * p.hold = W * p.hold + p.hold := by rw [Int.add_mul, Int.one_mul]
    have m2 : (W' + 1) * q.hold = W' * q.hold + q.hold := by rw [Int.add_mul, Int.one_mul]
    have mm : ∀ a b : Int, 0 ≤ a → a ≤ b → a * p.hold ≤ b * q.hold := fun a b h1 h2 => Int.mul_le_mul h2 hhq (by omega) (by omega)
    have n1 := mm W W' k6
    have n2 := mm (W + 1) W' (by omega)
    rw [m1] at n2
    have hp0 : ((p.hold.toNat : Nat) : Int) = p.hold := by omega
    have hq0 : ((q.hold.toNat : Nat) : Int) = q.hold := by omega
    -- the eager one's step, as one
    have st : ∃ (xn : Int) (rn : Nat) (Wn cn : Int), enF q m (t + 1) xn rn + cn ≤ enF q (m + 1) t x' r' + c' ∧ Tk q (t + 1) xn rn Wn j2' ∧
        ((r' = 0 ∧ rn = 0 ∧ Wn = W' ∧ cn = c' ∧ q.bu + j2' = W') ∨ (r' = 0 ∧ (rn : Int) = q.hold ∧ Wn = W' + 1 ∧ cn = c' + 1) ∨ (r' = 1 ∧ rn = 0 ∧ Wn = W' ∧ cn = c') ∨ (2 ≤ r' ∧ (rn : Int) = (r' : Int) - 1 ∧ Wn = W' ∧ cn = c' + 1)) := by
      rw [enF]
      by_cases e0 : r' = 0
      · subst e0
        rw [if_pos rfl]
        by_cases e1 : refV q t x' = 0
        · rw [if_pos e1, e1]
          obtain ⟨g4, g5⟩ := g3 rfl e1
          exact ⟨0, 0, W', c', by omega, g4, .inl ⟨rfl, rfl, rfl, rfl, g5⟩⟩
        · rw [if_neg e1]
          have g4 := g2 rfl e1
          refine ⟨refV q t x' - 1, q.hold.toNat, W' + 1, c' + 1, by simp only [Int.max_def]; split <;> omega, by rw [hq0]; exact g4, .inr (.inl ⟨rfl, hq0, rfl, rfl⟩)⟩
      · rw [if_neg e0]
        have g4 := g1 (by omega)
        by_cases e1 : r' = 1
        · subst e1
          rw [if_pos rfl]
          exact ⟨refV q t x', 0, W', c', by omega, g4, .inr (.inr (.inl ⟨rfl, rfl, rfl, rfl⟩))⟩
        · rw [if_neg e1]
          have e2 : ((r' - 1 : Nat) : Int) = (r' : Int) - 1 := by omega
          exact ⟨refV q t x', r' - 1, W', c' + 1, by omega, by rw [e2]; exact g4, .inr (.inr (.inr ⟨by omega, e2, rfl, rfl⟩))⟩
    obtain ⟨xn, rn, Wn, cn, s1, s2, s3⟩ := st
    -- the other one's step
    have key : ∀ (y : Int) (ro : Nat) (Wo co : Int), 0 ≤ y → y + Wo ≤ p.bu + j2 →
        ((r = 0 ∧ ro = 0 ∧ Wo = W ∧ co = c) ∨ (r = 0 ∧ (ro : Int) = p.hold ∧ Wo = W + 1 ∧ co = c + 1) ∨ (r = 1 ∧ ro = 0 ∧ Wo = W ∧ co = c) ∨ (2 ≤ r ∧ (ro : Int) = (r : Int) - 1 ∧ Wo = W ∧ co = c + 1)) →
        enF p m (t + 1) y ro + co ≤ enF q (m + 1) t x' r' + c' := by
      intro y ro Wo co hy hty ho
      refine Int.le_trans (ih y ro Wo co j2 xn rn Wn cn j2' ?_) s1
      have ho2 : ∃ Ao, Ao = Wo * p.hold ∧ (((r : Int) = 0 ∧ (ro : Int) = 0 ∧ Wo = W ∧ co = c ∧ Ao = W * p.hold) ∨ ((r : Int) = 0 ∧ (ro : Int) = p.hold ∧ Wo = W + 1 ∧ co = c + 1 ∧ Ao = W * p.hold + p.hold) ∨ ((r : Int) = 1 ∧ (ro : Int) = 0 ∧ Wo = W ∧ co = c ∧ Ao = W * p.hold) ∨ (2 ≤ (r : Int) ∧ (ro : Int) = r - 1 ∧ Wo = W ∧ co = c + 1 ∧ Ao = W * p.hold)) := by
        rcases ho with ⟨o1, o2, rfl, rfl⟩ | ⟨o1, o2, rfl, rfl⟩ | ⟨o1, o2, rfl, rfl⟩ | ⟨o1, o2, rfl, rfl⟩
        · exact ⟨_, rfl, .inl ⟨by omega, by omega, rfl, rfl, rfl⟩⟩
        · exact ⟨_, m1.symm, .inr (.inl ⟨by omega, by omega, rfl, rfl, rfl⟩)⟩
        · exact ⟨_, rfl, .inr (.inr (.inl ⟨by omega, by omega, rfl, rfl, rfl⟩))⟩
        · exact ⟨_, rfl, .inr (.inr (.inr ⟨by omega, by omega, rfl, rfl, rfl⟩))⟩
      have hi2 : ∃ An, An = Wn * q.hold ∧ (((r' : Int) = 0 ∧ (rn : Int) = 0 ∧ Wn = W' ∧ cn = c' ∧ An = W' * q.hold ∧ Wo ≤ W') ∨ ((r' : Int) = 0 ∧ (rn : Int) = q.hold ∧ Wn = W' + 1 ∧ cn = c' + 1 ∧ An = W' * q.hold + q.hold) ∨ ((r' : Int) = 1 ∧ (rn : Int) = 0 ∧ Wn = W' ∧ cn = c' ∧ An = W' * q.hold) ∨ (2 ≤ (r' : Int) ∧ (rn : Int) = r' - 1 ∧ Wn = W' ∧ cn = c' + 1 ∧ An = W' * q.hold)) := by
        rcases s3 with ⟨i1, i2, rfl, rfl, i5⟩ | ⟨i1, i2, rfl, rfl⟩ | ⟨i1, i2, rfl, rfl⟩ | ⟨i1, i2, rfl, rfl⟩
        · exact ⟨_, rfl, .inl ⟨by omega, by omega, rfl, rfl, rfl, by clear n1 n2 k8 k9 k10 k11 ho ho2; omega⟩⟩
        · exact ⟨_, m2.symm, .inr (.inl ⟨by omega, by omega, rfl, rfl, rfl⟩)⟩
        · exact ⟨_, rfl, .inr (.inr (.inl ⟨by omega, by omega, rfl, rfl, rfl⟩))⟩
        · exact ⟨_, rfl, .inr (.inr (.inr ⟨by omega, by omega, rfl, rfl, rfl⟩))⟩
      obtain ⟨Ao, hAo, ho2⟩ := ho2
      obtain ⟨An, hAn, hi2⟩ := hi2
      have hH1 : 1 ≤ q.hold := by omega
      obtain ⟨z1, z2, z3, z4⟩ := two_arith k8 k9 k10 k11 n1 n2 hh0 hH1 ho2 hi2
      rw [hAo] at z2
      rw [hAn] at z3
      clear n1 n2 k8 k9 k10 k11
      refine ⟨by omega, hy, by omega, ?_, by omega, ?_, ?_, ?_, z1, z2, z3, z4, c2, c2', hty, s2⟩
      all_goals (clear z2 z3 z4 m1 m2)
      · rcases ho with h | h | h | h <;> omega
      · rcases s3 with h | h | h | h <;> omega
      · rcases ho with h | h | h | h <;> omega
      · rcases s3 with h | h | h | h <;> omega
    rw [enF]
    by_cases e0 : r = 0
    · subst e0
      rw [if_pos rfl]
      by_cases e1 : refV p t x = 0
      · rw [if_pos e1]
        have := key (refV p t x) 0 W c y2 y1 (.inl ⟨rfl, rfl, rfl, rfl⟩)
        omega
      · rw [if_neg e1]
        have h1 := key (refV p t x) 0 W c y2 y1 (.inl ⟨rfl, rfl, rfl, rfl⟩)
        have h2 := key (refV p t x - 1) p.hold.toNat (W + 1) (c + 1) (by omega) (by omega) (.inr (.inl ⟨rfl, hp0, rfl, rfl⟩))
        omega
    · rw [if_neg e0]
      by_cases e1 : r = 1
      · subst e1
        rw [if_pos rfl]
        have := key (refV p t x) 0 W c y2 y1 (.inr (.inr (.inl ⟨rfl, rfl, rfl, rfl⟩)))
        omega
      · rw [if_neg e1]
        have := key (refV p t x) (r - 1) W (c + 1) y2 y1 (.inr (.inr (.inr ⟨by omega, by omega, rfl, rfl⟩)))
        omega
theorem enF_none {p : Nd} (hz : p.za = 0) (hb : p.bu = 0) : ∀ (m : Nat) (t : Int), enF p m t 0 0 = 0
  | 0, _ => rfl
  | m + 1, t => by
    have e : refV p t 0 = 0 := by
      unfold refV
      rw [hb]
      split <;> rfl
    rw [enF, if_pos rfl, if_pos e, e, hz, enF_none hz hb m]; rfl
/-- more tokens, sooner, or for longer: no less -/
theorem enF_mono {P Q : Nd} (ha : P.aw = Q.aw) (hz : P.za = Q.za) (h01 : P.za ≤ P.aw) (hb0 : 0 ≤ P.bu) (hb : P.bu ≤ Q.bu) (hr : 1 ≤ Q.re) (hrr : Q.re ≤ P.re) (hh0 : 1 ≤ P.hold) (hh : P.hold ≤ Q.hold) (m : Nat) :
    enF P m 0 P.bu 0 ≤ enF Q m 0 Q.bu 0 := by
  have h1 := enF_lin (q := P) (p := ⟨1, 0, P.bu, P.re, P.hold, 0⟩) h01 rfl rfl rfl rfl rfl m 0 P.bu 0
  have h2 := enF_lin (q := Q) (p := ⟨1, 0, Q.bu, Q.re, Q.hold, 0⟩) (by omega) rfl rfl rfl rfl rfl m 0 Q.bu 0
  rw [h1, h2, ha, hz]
  refine Int.add_le_add_left (Int.mul_le_mul_of_nonneg_right ?_ (by omega)) _
  by_cases e : Q.bu = 0
  · have e2 : P.bu = 0 := by omega
    rw [e2, enF_none rfl rfl, e, enF_none rfl rfl]; exact Int.le_refl _
  · have := two_le (p := ⟨1, 0, P.bu, P.re, P.hold, 0⟩) (q := ⟨1, 0, Q.bu, Q.re, Q.hold, 0⟩) ⟨rfl, rfl, rfl, rfl, hh0, hh, hr, hrr, hb, by show 1 ≤ Q.bu; omega⟩ hb0 m 0 P.bu 0 0 0 0 Q.bu 0 0 0 0
      ⟨Int.le_refl _, hb0, Int.le_refl _, by show (0 : Int) ≤ P.hold; omega, Int.le_refl _, by show (0 : Int) ≤ Q.hold; omega, Int.le_refl _, Int.le_refl _, Int.le_refl _, .inl ⟨by decide, by simp⟩, .inl ⟨by decide, by simp⟩, .inr (.inl ⟨rfl, rfl, Int.le_refl _⟩), .inl ⟨rfl, rfl⟩, .inl ⟨rfl, rfl⟩, Int.le_refl _, by
        by_cases e2 : Q.hold + 1 < Q.re
        · exact .inl ⟨e2, rfl, Int.le_refl _, fun _ => by show (0 : Int) + 0 < 0 * Q.re + Q.re; omega⟩
        · exact .inr ⟨by show Q.re ≤ Q.hold + 1; omega, by omega, .inl (by omega)⟩⟩
    simpa using this
end
section
open Go.RowKit

set_option maxRecDepth 100000 in
set_option maxHeartbeats 400000 in
theorem beg1_any (bc bt : Nat) (na : Option Addr) (n nc : Nat) (gr hold t : Int) (nd : List (List Int)) (x : List Int) (w : World) (hcb : RCells w [(⟨bc, 0, none⟩, .int .i64 gr), (⟨bc, 1, none⟩, .int .i64 hold), (⟨bc, 2, none⟩, .slice na n nc), (⟨bt, 0, none⟩, .int .i64 t)]) (hnd : StAt w 5 na n nd) (hc : CluOk gr hold nd) (ht : 0 ≤ t ∧ t ≤ 1000) :
  Calls Try.prog 68 #[.agg #[.int .i64 (nv x 0), .int .i64 (nv x 1), .int .i64 (nv x 2), .int .i64 (nv x 3)], .pointer (some ⟨bc, 0, none⟩), .pointer (some ⟨bt, 0, none⟩)] w fun e w' => e = .returned (.bool (!rightB gr nd t x)) ∧ Gr w w' := by
 have G := Gr.refl w
 have hC := hcb
 have hlen := hnd.len
 refine Y.calls 10 Try.func68 rfl rfl ?_
 intro ac F0
 have F : Fr ac 10 [(0, .agg #[.int .i64 (nv x 0), .int .i64 (nv x 1), .int .i64 (nv x 2), .int .i64 (nv x 3)]), (1, .pointer (some ⟨bc, 0, none⟩)), (2, .pointer (some ⟨bt, 0, none⟩))] := F0.sub _
 clear F0
 refine Y.seq ?_
 refine Y.lit (by kernel_rfl) ?_
 refine Y.pval F (X.w0 rfl) rfl (X.box rfl (F.ev 0 (.agg #[.int .i64 (nv x 0), .int .i64 (nv x 1), .int .i64 (nv x 2), .int .i64 (nv x 3)])) X.bx) ?_
 clear F ac
 intro ac F
 have g := Gr.alloc w (.cells #[.int .i64 (nv x 0), .int .i64 (nv x 1), .int .i64 (nv x 2), .int .i64 (nv x 3)] 33)
 have hb := heap_alloc_new w (.cells #[.int .i64 (nv x 0), .int .i64 (nv x 1), .int .i64 (nv x 2), .int .i64 (nv x 3)] 33)
 have hbl : w.heap.size < (w.alloc (.cells #[.int .i64 (nv x 0), .int .i64 (nv x 1), .int .i64 (nv x 2), .int .i64 (nv x 3)] 33)).heap.size := by simp
 have hC2 : RCells (w.alloc (.cells #[.int .i64 (nv x 0), .int .i64 (nv x 1), .int .i64 (nv x 2), .int .i64 (nv x 3)] 33)) [(⟨bc, 0, none⟩, .int .i64 gr), (⟨bc, 1, none⟩, .int .i64 hold), (⟨bc, 2, none⟩, .slice na n nc), (⟨bt, 0, none⟩, .int .i64 t), (⟨w.heap.size, 0, none⟩, .int .i64 (nv x 0)), (⟨w.heap.size, 1, none⟩, .int .i64 (nv x 1)), (⟨w.heap.size, 2, none⟩, .int .i64 (nv x 2)), (⟨w.heap.size, 3, none⟩, .int .i64 (nv x 3))] := hC.box (b := w.heap.size) #[.int .i64 (nv x 0), .int .i64 (nv x 1), .int .i64 (nv x 2), .int .i64 (nv x 3)] 33 rfl
 generalize w.alloc (.cells #[.int .i64 (nv x 0), .int .i64 (nv x 1), .int .i64 (nv x 2), .int .i64 (nv x 3)] 33) = w3 at *
 replace G := G.trans g
 replace hC := hC2
 clear hC2
 replace hnd := hnd.gr g
 clear g hb hbl
 refine Y.pval F (X.w0 rfl) rfl (X.assign rfl (X.kc (.bool false) rfl)) ?_
 clear F ac
 intro ac F
 refine Y.nil ?_
 replace F : Fr ac 10 [(0, .agg #[.int .i64 (nv x 0), .int .i64 (nv x 1), .int .i64 (nv x 2), .int .i64 (nv x 3)]), (1, .pointer (some ⟨bc, 0, none⟩)), (2, .pointer (some ⟨bt, 0, none⟩)), (3, .pointer (some ⟨w.heap.size, 0, none⟩)), (4, .bool false)] := F.sub _
 refine X.thenN ?_
 refine Y.seq ?_
 refine Y.lit (by kernel_rfl) ?_
 refine Y.pval F (X.w0 rfl) rfl (X.load rfl (F.ev 1 (.pointer (some ⟨bc, 0, none⟩))) (X.ldN (Try.agg24 _) (Try.siz24 _) (Y.atz (⟨bc, 0, none⟩) (Y.AtFrom.cons (hC.at 0 rfl) (Y.AtFrom.cons (hC.at 1 rfl) (Y.AtFrom.cons (hC.at 2 rfl) (Y.AtFrom.nil _ _ _))))))) ?_
 clear F ac
 intro ac F
 refine Y.pval F (X.w0 rfl) rfl (X.load rfl (F.ev 2 (.pointer (some ⟨bt, 0, none⟩))) (X.ld1 (Try.agg3 _) (hC.at 3 rfl))) ?_
 clear F ac
 intro ac F
 refine Y.pval F (X.w0 rfl) rfl (X.load rfl (F.ev 3 (.pointer (some ⟨w.heap.size, 0, none⟩))) (X.ldN (Try.agg33 _) (Try.siz33 _) (Y.atz (⟨w.heap.size, 0, none⟩) (Y.AtFrom.cons (hC.at 4 rfl) (Y.AtFrom.cons (hC.at 5 rfl) (Y.AtFrom.cons (hC.at 6 rfl) (Y.AtFrom.cons (hC.at 7 rfl) (Y.AtFrom.nil _ _ _)))))))) ?_
 clear F ac
 intro ac F
 refine Y.pcall F (X.w0 rfl) rfl (X.enter (F := 69) rfl (X.kc (.func (.func 69) #[] #[]) rfl) (X.a3 (F.ev 5 (.agg #[.int .i64 gr, .int .i64 hold, .slice na n nc])) (F.ev 6 (.int .i64 t)) (F.ev 7 (.agg #[.int .i64 (nv x 0), .int .i64 (nv x 1), .int .i64 (nv x 2), .int .i64 (nv x 3)]))) (enters_of Try.func69 (by kernel_rfl) rfl _)) (right_any na n nc gr hold t nd x w3 hnd hc ht) ?_
 clear F ac
 rintro e w4 ⟨rfl, g⟩
 refine ⟨_, rfl, ?_⟩
 intro ac F
 replace G := G.trans g
 replace hC := hC.gr g
 replace hnd := hnd.gr g
 clear g
 refine Y.pval F (X.w0 rfl) rfl (X.notB rfl (F.ev 8 (.bool (rightB gr nd t x))) rfl) ?_
 clear F ac
 intro ac F
 refine Y.pval F (X.w0 rfl) rfl (X.assign rfl (F.ev 9 (.bool (!(rightB gr nd t x))))) ?_
 clear F ac
 intro ac F
 refine Y.nil ?_
 replace F : Fr ac 10 [(0, .agg #[.int .i64 (nv x 0), .int .i64 (nv x 1), .int .i64 (nv x 2), .int .i64 (nv x 3)]), (1, .pointer (some ⟨bc, 0, none⟩)), (2, .pointer (some ⟨bt, 0, none⟩)), (3, .pointer (some ⟨w.heap.size, 0, none⟩)), (4, .bool (!(rightB gr nd t x)))] := F.sub _
 refine X.thenN ?_
 refine Y.ret ?_
 exact Y.ret0 (v := .bool (!(rightB gr nd t x))) F (Y.rs1 F rfl (by kernel_rfl)) ⟨rfl, G⟩
set_option maxRecDepth 100000 in
set_option maxHeartbeats 400000 in
theorem indexF_any (bc bt : Nat) (na la : Option Addr) (n nc m lc : Nat) (gr hold t : Int) (nd l : List (List Int)) (w : World) (hcb : RCells w [(⟨bc, 0, none⟩, .int .i64 gr), (⟨bc, 1, none⟩, .int .i64 hold), (⟨bc, 2, none⟩, .slice na n nc), (⟨bt, 0, none⟩, .int .i64 t)]) (hnd : StAt w 5 na n nd) (hc : CluOk gr hold nd) (ht : 0 ≤ t ∧ t ≤ 1000) (hl : StAt w 4 la m l) :
  Calls Try.prog 83 #[.slice la m lc, .func (.func 68) #[] #[.pointer (some ⟨bc, 0, none⟩), .pointer (some ⟨bt, 0, none⟩)]] w fun e w' => ∃ z, e = .returned (.int .i64 z) ∧ decide (0 ≤ z) = !(allN (fun i => rightB gr nd t (l[i]?.getD [])) m) ∧ Gr w w' := by
 have G := Gr.refl w
 have hC := hcb
 have hlen := hnd.len
 have hlm := hl.lt
 have hll := hl.len
 refine Y.calls 19 Try.func83 rfl rfl ?_
 intro ac F0
 have F : Fr ac 19 [(0, .slice la m lc), (1, .func (.func 68) #[] #[.pointer (some ⟨bc, 0, none⟩), .pointer (some ⟨bt, 0, none⟩)])] := F0.sub _
 clear F0
 refine Y.seq ?_
 refine Y.lit (by kernel_rfl) ?_
 refine Y.pval F (X.w0 rfl) rfl (X.assign rfl (X.kc (.int .i64 0) rfl)) ?_
 clear F ac
 intro ac F
 refine Y.nil ?_
 replace F : Fr ac 19 [(0, .slice la m lc), (1, .func (.func 68) #[] #[.pointer (some ⟨bc, 0, none⟩), .pointer (some ⟨bt, 0, none⟩)]), (4, .int .i64 0)] := F.sub _
 refine X.thenN ?_
 refine Y.seq ?_
 refine Y.seq ?_
 refine Y.lit (by kernel_rfl) ?_
 refine Y.pval F (X.w0 rfl) rfl (X.move rfl (F.ev 0 (.slice la m lc))) ?_
 clear F ac
 intro ac F
 refine Y.pval F (X.w0 rfl) rfl (X.len1 Try.underlying25 rfl (F.ev 6 (.slice la m lc))) ?_
 clear F ac
 intro ac F
 refine Y.pval F (X.w0 rfl) rfl (X.move rfl (X.kc (.int .i64 0) rfl)) ?_
 clear F ac
 intro ac F
 refine Y.nil ?_
 replace F : Fr ac 19 [(0, .slice la m lc), (1, .func (.func 68) #[] #[.pointer (some ⟨bc, 0, none⟩), .pointer (some ⟨bt, 0, none⟩)]), (4, .int .i64 0), (7, .int .i64 m), (8, .int .i64 0)] := F.sub _
 refine X.thenN ?_
 refine Y.block ?_
 have hndB := hnd
 have hlB := hl
 have hCB := hC
 have GB := G
 refine Y.loop (fun me_ ac wr => ∃ (i : Nat), me_ = m - i ∧ Gr w wr ∧ i ≤ m ∧ allN (fun i => rightB gr nd t (l[i]?.getD [])) i = true ∧ Fr ac 19 [(0, .slice la m lc), (1, .func (.func 68) #[] #[.pointer (some ⟨bc, 0, none⟩), .pointer (some ⟨bt, 0, none⟩)]), (7, .int .i64 m), (8, .int .i64 i)]) _ ⟨0, rfl, Gr.refl _, Nat.zero_le _, rfl, F.sub _⟩ ?_
 clear F
 intro me_ ac w3 hI
 obtain ⟨i, rfl, gr, hi0, hall, F⟩ := hI
 replace G := GB.trans gr
 replace hC := hCB.gr gr
 replace hnd := hndB.gr gr
 replace hl := hlB.gr gr
 have GB_ := gr
 clear gr
 refine Y.seq ?_
 refine Y.lit (by kernel_rfl) ?_
 refine Y.pval F (X.w0 rfl) rfl (X.binop rfl (F.ev 8 (.int .i64 i)) (F.ev 7 (.int .i64 m)) (X.lssI Try.underlying3 rfl)) ?_
 clear F ac
 intro ac F
 refine Y.nil ?_
 replace F : Fr ac 19 [(0, .slice la m lc), (1, .func (.func 68) #[] #[.pointer (some ⟨bc, 0, none⟩), .pointer (some ⟨bt, 0, none⟩)]), (7, .int .i64 m), (8, .int .i64 i), (9, .bool (decide ((i : Int) < m)))] := F.sub _
 refine X.thenN ?_
 refine Y.seq ?_
 cases h4 : decide ((i : Int) < m) with
 | false =>
  try rw [h4] at F
  have h4p : ¬ ((i : Int) < m) := of_decide_eq_false h4
  have him : i = m := by omega
  rw [him] at hall
  refine Y.condF (F.ev 9 (.bool false)) ?_
  refine Y.exit ?_
  refine X.thenX ?_
  refine X.thenX ?_
  refine X.blockX ?_
  refine X.thenN ?_
  refine Y.seq ?_
  refine Y.lit (by kernel_rfl) ?_
  refine Y.pval F (X.w0 rfl) rfl (X.assign rfl (X.kc (.int .i64 (-1)) rfl)) ?_
  clear F ac
  intro ac F
  refine Y.nil ?_
  replace F : Fr ac 19 [(0, .slice la m lc), (1, .func (.func 68) #[] #[.pointer (some ⟨bc, 0, none⟩), .pointer (some ⟨bt, 0, none⟩)]), (4, .int .i64 (-1)), (7, .int .i64 m), (8, .int .i64 i), (9, .bool false)] := F.sub _
  refine X.thenN ?_
  refine Y.ret ?_
  exact Y.ret0 (v := .int .i64 (-1)) F (Y.rs1 F rfl (by kernel_rfl)) ⟨_, rfl, by rw [hall]; decide, G⟩
 | true =>
  try rw [h4] at F
  have h4p : ((i : Int) < m) := of_decide_eq_true h4
  refine Y.condT (F.ev 9 (.bool true)) ?_
  refine Y.skip ?_
  refine X.thenN ?_
  refine Y.seq ?_
  refine Y.block ?_
  refine Y.seq ?_
  refine Y.lit (by kernel_rfl) ?_
  refine Y.pval F (X.w0 rfl) rfl (X.move rfl (F.ev 8 (.int .i64 i))) ?_
  clear F ac
  intro ac F
  refine Y.pval F (X.w0 rfl) rfl (X.assign rfl (F.ev 10 (.int .i64 i))) ?_
  clear F ac
  intro ac F
  refine Y.nil ?_
  replace F : Fr ac 19 [(0, .slice la m lc), (1, .func (.func 68) #[] #[.pointer (some ⟨bc, 0, none⟩), .pointer (some ⟨bt, 0, none⟩)]), (5, .int .i64 i), (7, .int .i64 m), (8, .int .i64 i), (9, .bool true)] := F.sub _
  refine X.thenN ?_
  refine Y.seq ?_
  refine Y.lit (by kernel_rfl) ?_
  refine Y.pval F (X.w0 rfl) rfl (X.move rfl (F.ev 1 (.func (.func 68) #[] #[.pointer (some ⟨bc, 0, none⟩), .pointer (some ⟨bt, 0, none⟩)]))) ?_
  clear F ac
  intro ac F
  refine Y.pval F (X.w0 rfl) rfl (X.move rfl (F.ev 0 (.slice la m lc))) ?_
  clear F ac
  intro ac F
  refine Y.pval F (X.w0 rfl) rfl (X.move rfl (F.ev 5 (.int .i64 i))) ?_
  clear F ac
  intro ac F
  obtain ⟨pd5, pe5, -, -, pc5⟩ := hl.at (j := i) (by omega)
  subst pe5
  replace hC : RCells w3 [(⟨bc, 0, none⟩, .int .i64 gr), (⟨bc, 1, none⟩, .int .i64 hold), (⟨bc, 2, none⟩, .slice na n nc), (⟨bt, 0, none⟩, .int .i64 t), (pd5.add (i * 4), .int .i64 (cv l i 0)), (⟨(pd5.add (i * 4)).block, (pd5.add (i * 4)).off + 1, none⟩, .int .i64 (cv l i 1)), (⟨(pd5.add (i * 4)).block, (pd5.add (i * 4)).off + 2, none⟩, .int .i64 (cv l i 2)), (⟨(pd5.add (i * 4)).block, (pd5.add (i * 4)).off + 3, none⟩, .int .i64 (cv l i 3))] := hC.append ((RCells.cons (pc5 0 (by decide)) (RCells.cons (pc5 1 (by decide)) (RCells.cons (pc5 2 (by decide)) (RCells.cons (pc5 3 (by decide)) (RCells.nil _))))))
  clear pc5
  refine Y.pval F (X.w0 rfl) rfl (X.index rfl (F.ev 12 (.slice (some pd5) m lc)) (F.ev 13 (.int .i64 i)) (X.idx (k := i) Try.underlying25 (Try.siz33 _) (by omega) (by omega) rfl)) ?_
  clear F ac
  intro ac F
  refine Y.pval F (X.w0 rfl) rfl (X.load rfl (F.ev 14 (.pointer (some (pd5.add (i * 4))))) (X.ldN (Try.agg33 _) (Try.siz33 _) (Y.atz (pd5.add (i * 4)) (Y.AtFrom.cons (hC.at 4 rfl) (Y.AtFrom.cons (hC.at 5 rfl) (Y.AtFrom.cons (hC.at 6 rfl) (Y.AtFrom.cons (hC.at 7 rfl) (Y.AtFrom.nil _ _ _)))))))) ?_
  clear F ac
  intro ac F
  refine Y.pcall F (X.w0 rfl) rfl (X.enter (F := 68) rfl (F.ev 11 (.func (.func 68) #[] #[.pointer (some ⟨bc, 0, none⟩), .pointer (some ⟨bt, 0, none⟩)])) (X.a1 (F.ev 15 (.agg #[.int .i64 (cv l i 0), .int .i64 (cv l i 1), .int .i64 (cv l i 2), .int .i64 (cv l i 3)]))) (enters_of Try.func68 (by kernel_rfl) rfl _)) (beg1_any bc bt na n nc gr hold t nd (l[i]?.getD []) w3 ((RCells.cons (hC.at 0 rfl) (RCells.cons (hC.at 1 rfl) (RCells.cons (hC.at 2 rfl) (RCells.cons (hC.at 3 rfl) (RCells.nil _)))))) hnd hc ht) ?_
  clear F ac
  rintro e w6 ⟨rfl, g⟩
  refine ⟨_, rfl, ?_⟩
  intro ac F
  replace G := G.trans g
  replace hC := hC.gr g
  replace GB_ := GB_.trans g
  replace hnd := hnd.gr g
  replace hl := hl.gr g
  clear g
  refine Y.nil ?_
  replace F : Fr ac 19 [(0, .slice (some pd5) m lc), (1, .func (.func 68) #[] #[.pointer (some ⟨bc, 0, none⟩), .pointer (some ⟨bt, 0, none⟩)]), (5, .int .i64 i), (7, .int .i64 m), (8, .int .i64 i), (9, .bool true), (16, .bool (!(rightB gr nd t (l[i]?.getD []))))] := F.sub _
  refine X.thenN ?_
  cases h7 : rightB gr nd t (l[i]?.getD []) with
  | false =>
   try rw [h7] at F
   refine Y.condT (F.ev 16 (.bool true)) ?_
   refine Y.seq ?_
   refine Y.lit (by kernel_rfl) ?_
   refine Y.pval F (X.w0 rfl) rfl (X.move rfl (F.ev 5 (.int .i64 i))) ?_
   clear F ac
   intro ac F
   refine Y.pval F (X.w0 rfl) rfl (X.assign rfl (F.ev 17 (.int .i64 i))) ?_
   clear F ac
   intro ac F
   refine Y.nil ?_
   replace F : Fr ac 19 [(0, .slice (some pd5) m lc), (1, .func (.func 68) #[] #[.pointer (some ⟨bc, 0, none⟩), .pointer (some ⟨bt, 0, none⟩)]), (4, .int .i64 i), (5, .int .i64 i), (7, .int .i64 m), (8, .int .i64 i), (9, .bool true), (16, .bool true)] := F.sub _
   refine X.thenN ?_
   refine Y.ret ?_
   refine X.blockR ?_
   refine X.thenR ?_
   refine X.thenR ?_
   refine X.blockR ?_
   refine X.thenR ?_
   exact Y.ret0 (v := .int .i64 i) F (Y.rs1 F rfl (by kernel_rfl)) ⟨_, rfl, by rw [allN_bad (i := i) (by omega) (by simpa using h7)]; simp, G⟩
  | true =>
   try rw [h7] at F
   refine Y.condF (F.ev 16 (.bool false)) ?_
   refine Y.skip ?_
   refine X.blockN ?_
   refine X.thenN ?_
   refine Y.lit (by kernel_rfl) ?_
   refine Y.pval F (X.w0 rfl) rfl (X.binop rfl (F.ev 8 (.int .i64 i)) (X.kc (.int .i64 1) rfl) (X.addI Try.underlying3 rfl (by omega) (by omega))) ?_
   clear F ac
   intro ac F
   refine Y.pval F (X.w0 rfl) rfl (X.move rfl (F.ev 18 (.int .i64 ((i : Int) + 1)))) ?_
   clear F ac
   intro ac F
   refine Y.nil ?_
   replace F : Fr ac 19 [(0, .slice (some pd5) m lc), (1, .func (.func 68) #[] #[.pointer (some ⟨bc, 0, none⟩), .pointer (some ⟨bt, 0, none⟩)]), (5, .int .i64 i), (7, .int .i64 m), (8, .int .i64 ((i : Int) + 1)), (9, .bool true), (16, .bool false)] := F.sub _
   refine X.thenN ?_
   refine ⟨_, ?_, i + 1, rfl, GB_, by omega, by simp only [allN, hall, Bool.true_and]; simpa using h7, F.sub _⟩
   omega
set_option maxRecDepth 100000 in
set_option maxHeartbeats 400000 in
theorem contF_any (bc bt : Nat) (na la : Option Addr) (n nc m lc : Nat) (gr hold t : Int) (nd l : List (List Int)) (w : World) (hcb : RCells w [(⟨bc, 0, none⟩, .int .i64 gr), (⟨bc, 1, none⟩, .int .i64 hold), (⟨bc, 2, none⟩, .slice na n nc), (⟨bt, 0, none⟩, .int .i64 t)]) (hnd : StAt w 5 na n nd) (hc : CluOk gr hold nd) (ht : 0 ≤ t ∧ t ≤ 1000) (hl : StAt w 4 la m l) :
  Calls Try.prog 67 #[.slice la m lc, .func (.func 68) #[] #[.pointer (some ⟨bc, 0, none⟩), .pointer (some ⟨bt, 0, none⟩)]] w fun e w' => e = .returned (.bool (!(allN (fun i => rightB gr nd t (l[i]?.getD [])) m))) ∧ Gr w w' := by
 have G := Gr.refl w
 have hC := hcb
 have hlen := hnd.len
 have hlm := hl.lt
 have hll := hl.len
 refine Y.calls 9 Try.func67 rfl rfl ?_
 intro ac F0
 have F : Fr ac 9 [(0, .slice la m lc), (1, .func (.func 68) #[] #[.pointer (some ⟨bc, 0, none⟩), .pointer (some ⟨bt, 0, none⟩)])] := F0.sub _
 clear F0
 refine Y.seq ?_
 refine Y.lit (by kernel_rfl) ?_
 refine Y.pval F (X.w0 rfl) rfl (X.assign rfl (X.kc (.bool false) rfl)) ?_
 clear F ac
 intro ac F
 refine Y.nil ?_
 replace F : Fr ac 9 [(0, .slice la m lc), (1, .func (.func 68) #[] #[.pointer (some ⟨bc, 0, none⟩), .pointer (some ⟨bt, 0, none⟩)]), (4, .bool false)] := F.sub _
 refine X.thenN ?_
 refine Y.seq ?_
 refine Y.lit (by kernel_rfl) ?_
 refine Y.pval F (X.w0 rfl) rfl (X.move rfl (F.ev 0 (.slice la m lc))) ?_
 clear F ac
 intro ac F
 refine Y.pval F (X.w0 rfl) rfl (X.move rfl (F.ev 1 (.func (.func 68) #[] #[.pointer (some ⟨bc, 0, none⟩), .pointer (some ⟨bt, 0, none⟩)]))) ?_
 clear F ac
 intro ac F
 refine Y.pcall F (X.w0 rfl) rfl (X.enter (F := 83) rfl (X.kc (.func (.func 83) #[] #[]) rfl) (X.a2 (F.ev 5 (.slice la m lc)) (F.ev 6 (.func (.func 68) #[] #[.pointer (some ⟨bc, 0, none⟩), .pointer (some ⟨bt, 0, none⟩)]))) (enters_of Try.func83 (by kernel_rfl) rfl _)) (indexF_any bc bt na la n nc m lc gr hold t nd l w ((RCells.cons (hC.at 0 rfl) (RCells.cons (hC.at 1 rfl) (RCells.cons (hC.at 2 rfl) (RCells.cons (hC.at 3 rfl) (RCells.nil _)))))) hnd hc ht hl) ?_
 clear F ac
 rintro e w3 ⟨z, rfl, hz, g⟩
 refine ⟨_, rfl, ?_⟩
 intro ac F
 replace G := G.trans g
 replace hC := hC.gr g
 replace hnd := hnd.gr g
 replace hl := hl.gr g
 clear g
 refine Y.pval F (X.w0 rfl) rfl (X.binop rfl (F.ev 7 (.int .i64 z)) (X.kc (.int .i64 0) rfl) (X.geqI Try.underlying3 rfl)) ?_
 clear F ac
 intro ac F
 refine Y.pval F (X.w0 rfl) rfl (X.assign rfl (F.ev 8 (.bool (decide ((0 : Int) ≤ z))))) ?_
 clear F ac
 intro ac F
 refine Y.nil ?_
 replace F : Fr ac 9 [(0, .slice la m lc), (1, .func (.func 68) #[] #[.pointer (some ⟨bc, 0, none⟩), .pointer (some ⟨bt, 0, none⟩)]), (4, .bool (decide ((0 : Int) ≤ z)))] := F.sub _
 refine X.thenN ?_
 refine Y.ret ?_
 exact Y.ret0 (v := .bool (decide ((0 : Int) ≤ z))) F (Y.rs1 F rfl (by kernel_rfl)) ⟨by rw [← hz], G⟩
end
section
open Go.RowKit

theorem playE_bad1 {gr hold t : Int} {nd l : List (List Int)} {m : Nat} (hl : l.length = m) (hE : ticksE gr hold nd t = 0) (h : 200 < m) : playE gr hold nd t l = 91 := by
  unfold playE nudgeB
  rw [if_neg (by rw [hE]; simp), hl]
  simp [show ¬ m ≤ 200 by omega]
theorem playE_bad2 {gr hold t : Int} {nd l : List (List Int)} {m : Nat} (hl : l.length = m) (hE : ticksE gr hold nd t = 0) (h : allN (fun i => rightB gr nd t (l[i]?.getD [])) m = false) : playE gr hold nd t l = 91 := by
  unfold playE nudgeB
  rw [if_neg (by rw [hE]; simp), hl, h]
  simp
theorem playE_good {gr hold t : Int} {nd l : List (List Int)} {m n : Nat} (hn : nd.length = n) (hl : l.length = m) (hE : ticksE gr hold nd t = 0) (hm : m ≤ 200) (h : allN (fun i => rightB gr nd t (l[i]?.getD [])) m = true) : playE gr hold nd t l = 0 := by
  unfold playE nudgeB
  rw [if_neg (by rw [hE]; simp), hl, h]
  simp [hm]
theorem s9p {W : World} {bp : Nat} {gr hold : Int} {na la pa : Option Addr} {n nc m lc cap : Nat} (h : OwnP W bp 5 (PVal gr hold na n nc la m lc (.slice pa n cap))) : RCells W (PlC bp 0 gr hold na la pa n nc m lc cap) := by
  intro p hp
  simp only [PlC, List.mem_cons, List.not_mem_nil, or_false] at hp
  rcases hp with rfl | rfl | rfl | rfl | rfl
  · exact h.cell (k := 0) (by decide)
  · exact h.cell (k := 1) (by decide)
  · exact h.cell (k := 2) (by decide)
  · exact h.cell (k := 3) (by decide)
  · exact h.cell (k := 4) (by decide)

set_option maxRecDepth 100000 in
set_option maxHeartbeats 1000000 in
theorem begin_any (na la : Option Addr) (n nc m lc : Nat) (gr hold t : Int) (nd l : List (List Int)) (w : World) (hnd : StAt w 5 na n nd) (hl : StAt w 4 la m l) :
  Calls Try.prog 44 #[.agg #[.int .i64 gr, .int .i64 hold, .slice na n nc], .int .i64 t, .slice la m lc] w fun e w' => (playE gr hold nd t l ≠ 0 → e = .returned (.tuple #[.pointer none, .int .i64 (playE gr hold nd t l)])) ∧ Gr w w' ∧ (playE gr hold nd t l = 0 → ∃ bp, e = .returned (.tuple #[.pointer (some ⟨bp, 0, none⟩), .int .i64 0]) ∧ Begun w w' gr hold na la n nc m lc l nd bp) := by
 have G := Gr.refl w
 have hnd0 := hnd
 have hl0 := hl
 have hlm := hl.lt
 have hln := hnd.lt
 refine Y.calls 52 Try.func44 rfl rfl ?_
 intro ac F0
 have F : Fr ac 52 [(0, .agg #[.int .i64 gr, .int .i64 hold, .slice na n nc]), (1, .int .i64 t), (2, .slice la m lc)] := F0.sub _
 clear F0
 refine Y.seq ?_
 refine Y.lit (by kernel_rfl) ?_
 refine Y.pval F (X.w0 rfl) rfl (X.box rfl (F.ev 0 (.agg #[.int .i64 gr, .int .i64 hold, .slice na n nc])) X.bx) ?_
 clear F ac
 intro ac F
 have g := Gr.alloc w (.cells #[.int .i64 gr, .int .i64 hold, .slice na n nc] 24)
 have hb := heap_alloc_new w (.cells #[.int .i64 gr, .int .i64 hold, .slice na n nc] 24)
 have hbl : w.heap.size < (w.alloc (.cells #[.int .i64 gr, .int .i64 hold, .slice na n nc] 24)).heap.size := by simp
 have hC2 : RCells (w.alloc (.cells #[.int .i64 gr, .int .i64 hold, .slice na n nc] 24)) [(⟨w.heap.size, 0, none⟩, .int .i64 gr), (⟨w.heap.size, 1, none⟩, .int .i64 hold), (⟨w.heap.size, 2, none⟩, .slice na n nc)] := (RCells.nil w).box (b := w.heap.size) #[.int .i64 gr, .int .i64 hold, .slice na n nc] 24 rfl
 generalize w.alloc (.cells #[.int .i64 gr, .int .i64 hold, .slice na n nc] 24) = w3 at *
 replace G := G.trans g
 have hC := hC2
 clear hC2
 replace hnd := hnd.gr g
 replace hl := hl.gr g
 clear g hb hbl
 refine Y.pval F (X.w0 rfl) rfl (X.box rfl (F.ev 1 (.int .i64 t)) (Y.bx1 rfl)) ?_
 clear F ac
 intro ac F
 have hq0 : w.heap.size < w3.heap.size := lt_cell (hC.at 0 rfl)
 have g := Gr.alloc w3 (.cells #[.int .i64 t] 3)
 have hb := heap_alloc_new w3 (.cells #[.int .i64 t] 3)
 have hbl : w3.heap.size < (w3.alloc (.cells #[.int .i64 t] 3)).heap.size := by simp
 have hC2 : RCells (w3.alloc (.cells #[.int .i64 t] 3)) [(⟨w.heap.size, 0, none⟩, .int .i64 gr), (⟨w.heap.size, 1, none⟩, .int .i64 hold), (⟨w.heap.size, 2, none⟩, .slice na n nc), (⟨w3.heap.size, 0, none⟩, .int .i64 t)] := hC.box (b := w3.heap.size) #[.int .i64 t] 3 rfl
 generalize w3.alloc (.cells #[.int .i64 t] 3) = w4 at *
 replace G := G.trans g
 replace hC := hC2
 clear hC2
 replace hnd := hnd.gr g
 replace hl := hl.gr g
 have hT := ownP_zero (val := NV (startS nd)) hb
 clear g hb hbl
 refine Y.pval F (X.w0 rfl) rfl (X.assign rfl (X.kc (.pointer none) rfl)) ?_
 clear F ac
 intro ac F
 refine Y.pval F (X.w0 rfl) rfl (X.assign rfl (X.kc (.int .i64 0) rfl)) ?_
 clear F ac
 intro ac F
 refine Y.nil ?_
 replace F : Fr ac 52 [(0, .agg #[.int .i64 gr, .int .i64 hold, .slice na n nc]), (1, .int .i64 t), (2, .slice la m lc), (3, .pointer (some ⟨w.heap.size, 0, none⟩)), (4, .pointer (some ⟨w3.heap.size, 0, none⟩)), (6, .pointer none), (7, .int .i64 0)] := F.sub _
 refine X.thenN ?_
 refine Y.seq ?_
 refine Y.seq ?_
 refine Y.lit (by kernel_rfl) ?_
 refine Y.pval F (X.w0 rfl) rfl (X.load rfl (F.ev 3 (.pointer (some ⟨w.heap.size, 0, none⟩))) (X.ldN (Try.agg24 _) (Try.siz24 _) (Y.atz (⟨w.heap.size, 0, none⟩) (Y.AtFrom.cons (hC.at 0 rfl) (Y.AtFrom.cons (hC.at 1 rfl) (Y.AtFrom.cons (hC.at 2 rfl) (Y.AtFrom.nil _ _ _))))))) ?_
 clear F ac
 intro ac F
 refine Y.pval F (X.w0 rfl) rfl (X.load rfl (F.ev 4 (.pointer (some ⟨w3.heap.size, 0, none⟩))) (X.ld1 (Try.agg3 _) (hC.at 3 rfl))) ?_
 clear F ac
 intro ac F
 refine Y.pcall F (X.w0 rfl) rfl (X.enter (F := 50) rfl (X.kc (.func (.func 50) #[] #[]) rfl) (X.a2 (F.ev 12 (.agg #[.int .i64 gr, .int .i64 hold, .slice na n nc])) (F.ev 13 (.int .i64 t))) (enters_of Try.func50 (by kernel_rfl) rfl _)) (ticks_any na n nc gr hold t nd w4 hnd) ?_
 clear F ac
 rintro e w5 ⟨rfl, g⟩
 refine ⟨_, rfl, ?_⟩
 intro ac F
 replace G := G.trans g
 replace hC := hC.gr g
 replace hnd := hnd.gr g
 replace hl := hl.gr g
 replace hT := hT.gr g
 clear g
 refine Y.pval F (X.w0 rfl) rfl (X.assign rfl (F.ev 14 (.int .i64 (ticksE gr hold nd t)))) ?_
 clear F ac
 intro ac F
 refine Y.nil ?_
 replace F : Fr ac 52 [(0, .agg #[.int .i64 gr, .int .i64 hold, .slice na n nc]), (1, .int .i64 t), (2, .slice la m lc), (3, .pointer (some ⟨w.heap.size, 0, none⟩)), (4, .pointer (some ⟨w3.heap.size, 0, none⟩)), (6, .pointer none), (7, .int .i64 0), (8, .int .i64 (ticksE gr hold nd t))] := F.sub _
 refine X.thenN ?_
 refine Y.seq ?_
 refine Y.lit (by kernel_rfl) ?_
 refine Y.pval F (X.w0 rfl) rfl (X.move rfl (F.ev 8 (.int .i64 (ticksE gr hold nd t)))) ?_
 clear F ac
 intro ac F
 refine Y.pval F (X.w0 rfl) rfl (X.binop rfl (F.ev 15 (.int .i64 (ticksE gr hold nd t))) (X.kc (.int .i64 0) rfl) (X.neqI Try.underlying26 rfl)) ?_
 clear F ac
 intro ac F
 refine Y.nil ?_
 replace F : Fr ac 52 [(0, .agg #[.int .i64 gr, .int .i64 hold, .slice na n nc]), (1, .int .i64 t), (2, .slice la m lc), (3, .pointer (some ⟨w.heap.size, 0, none⟩)), (4, .pointer (some ⟨w3.heap.size, 0, none⟩)), (6, .pointer none), (7, .int .i64 0), (8, .int .i64 (ticksE gr hold nd t)), (16, .bool ((ticksE gr hold nd t : Int) != 0))] := F.sub _
 refine X.thenN ?_
 cases h6 : ((ticksE gr hold nd t : Int) != 0) with
 | false =>
  try rw [h6] at F
  have h6p : (ticksE gr hold nd t : Int) = 0 := by simpa using h6
  have hE : ticksE gr hold nd t = 0 := by simpa using h6p
  have hok := (ticksE_ok hE).1
  have ht := (ticksE_ok hE).2
  have h16 : n ≤ 16 := by have := hok.n16; rw [hnd.len] at this; exact this
  refine Y.condF (F.ev 16 (.bool false)) ?_
  refine Y.skip ?_
  refine X.thenN ?_
  refine Y.seq ?_
  refine Y.seq ?_
  refine Y.lit (by kernel_rfl) ?_
  refine Y.pval F (X.w0 rfl) rfl (X.move rfl (F.ev 2 (.slice la m lc))) ?_
  clear F ac
  intro ac F
  refine Y.pval F (X.w0 rfl) rfl (X.len1 Try.underlying25 rfl (F.ev 18 (.slice la m lc))) ?_
  clear F ac
  intro ac F
  refine Y.pval F (X.w0 rfl) rfl (X.binop rfl (F.ev 19 (.int .i64 m)) (X.kc (.int .i64 200) rfl) (X.gtrI Try.underlying3 rfl)) ?_
  clear F ac
  intro ac F
  refine Y.pval F (X.w0 rfl) rfl (X.move rfl (F.ev 20 (.bool (decide ((200 : Int) < m))))) ?_
  clear F ac
  intro ac F
  cases h7 : decide ((200 : Int) < m) with
  | false =>
   try rw [h7] at F
   have h7p : ¬ ((200 : Int) < m) := of_decide_eq_false h7
   refine Y.pval F (X.w1 rfl (F.yl (j := 3) (d := 21) (b := false) rfl (by kernel_rfl))) rfl (X.move rfl (F.ev 2 (.slice la m lc))) ?_
   clear F ac
   intro ac F
   refine Y.pval F (X.w1 rfl (F.yl (j := 3) (d := 21) (b := false) rfl (by kernel_rfl))) rfl (Y.fnc rfl (Y.m2 (F.ev 3 (.pointer (some ⟨w.heap.size, 0, none⟩))) (F.ev 4 (.pointer (some ⟨w3.heap.size, 0, none⟩))))) ?_
   clear F ac
   intro ac F
   refine Y.pcall F (X.w1 rfl (F.yl (j := 3) (d := 21) (b := false) rfl (by kernel_rfl))) rfl (X.enter (F := 67) rfl (X.kc (.func (.func 67) #[] #[]) rfl) (X.a2 (F.ev 22 (.slice la m lc)) (F.ev 23 (.func (.func 68) #[] #[.pointer (some ⟨w.heap.size, 0, none⟩), .pointer (some ⟨w3.heap.size, 0, none⟩)]))) (enters_of Try.func67 (by kernel_rfl) rfl _)) (contF_any (w.heap.size) (w3.heap.size) na la n nc m lc gr hold t nd l w5 ((RCells.cons (hC.at 0 rfl) (RCells.cons (hC.at 1 rfl) (RCells.cons (hC.at 2 rfl) (RCells.cons (hC.at 3 rfl) (RCells.nil _)))))) hnd hok ⟨ht.1, ht.2⟩ hl) ?_
   clear F ac
   rintro e w8 ⟨rfl, g⟩
   refine ⟨_, rfl, ?_⟩
   intro ac F
   replace G := G.trans g
   replace hC := hC.gr g
   replace hnd := hnd.gr g
   replace hl := hl.gr g
   replace hT := hT.gr g
   clear g
   refine Y.pval F (X.w0 rfl) rfl (X.pickF rfl (F.ev 21 (.bool false)) (F.ev 24 (.bool (!(allN (fun i => rightB gr nd t (l[i]?.getD [])) m))))) ?_
   clear F ac
   intro ac F
   refine Y.nil ?_
   replace F : Fr ac 52 [(0, .agg #[.int .i64 gr, .int .i64 hold, .slice na n nc]), (1, .int .i64 t), (2, .slice la m lc), (3, .pointer (some ⟨w.heap.size, 0, none⟩)), (4, .pointer (some ⟨w3.heap.size, 0, none⟩)), (6, .pointer none), (7, .int .i64 0), (8, .int .i64 (ticksE gr hold nd t)), (16, .bool false), (25, .bool (!(allN (fun i => rightB gr nd t (l[i]?.getD [])) m)))] := F.sub _
   refine X.thenN ?_
   cases h9 : allN (fun i => rightB gr nd t (l[i]?.getD [])) m with
   | false =>
    try rw [h9] at F
    refine Y.condT (F.ev 25 (.bool true)) ?_
    refine Y.seq ?_
    refine Y.lit (by kernel_rfl) ?_
    refine Y.pval F (X.w0 rfl) rfl (X.assign rfl (X.kc (.pointer none) rfl)) ?_
    clear F ac
    intro ac F
    refine Y.pval F (X.w0 rfl) rfl (X.assign rfl (X.kc (.int .i64 91) rfl)) ?_
    clear F ac
    intro ac F
    refine Y.nil ?_
    replace F : Fr ac 52 [(0, .agg #[.int .i64 gr, .int .i64 hold, .slice na n nc]), (1, .int .i64 t), (2, .slice la m lc), (3, .pointer (some ⟨w.heap.size, 0, none⟩)), (4, .pointer (some ⟨w3.heap.size, 0, none⟩)), (6, .pointer none), (7, .int .i64 91), (8, .int .i64 (ticksE gr hold nd t)), (16, .bool false), (25, .bool true)] := F.sub _
    refine X.thenN ?_
    refine Y.ret ?_
    refine X.thenR ?_
    exact Y.ret0 (v := .tuple #[.pointer none, .int .i64 91]) F (Y.rs2 F rfl (by kernel_rfl) (by kernel_rfl)) ⟨fun _ => by rw [(playE_bad2 hl.len hE (by simpa using h9))], G, fun h => by rw [(playE_bad2 hl.len hE (by simpa using h9))] at h; cases h⟩
   | true =>
    try rw [h9] at F
    refine Y.condF (F.ev 25 (.bool false)) ?_
    refine Y.skip ?_
    refine X.thenN ?_
    refine Y.seq ?_
    refine Y.lit (by kernel_rfl) ?_
    refine Y.pval F (X.w0 rfl) rfl (X.load rfl (F.ev 3 (.pointer (some ⟨w.heap.size, 0, none⟩))) (X.ldN (Try.agg24 _) (Try.siz24 _) (Y.atz (⟨w.heap.size, 0, none⟩) (Y.AtFrom.cons (hC.at 0 rfl) (Y.AtFrom.cons (hC.at 1 rfl) (Y.AtFrom.cons (hC.at 2 rfl) (Y.AtFrom.nil _ _ _))))))) ?_
    clear F ac
    intro ac F
    refine Y.pval F (X.w0 rfl) rfl (X.move rfl (F.ev 2 (.slice la m lc))) ?_
    clear F ac
    intro ac F
    refine Y.pval F (X.w0 rfl) rfl (Y.bd rfl (X.b2 (F.ev 26 (.agg #[.int .i64 gr, .int .i64 hold, .slice na n nc])) (F.ev 27 (.slice la m lc))) (Try.bd101 _ _ _ _ _ _ _ _ _)) ?_
    clear F ac
    intro ac F
    refine Y.pval F (X.w0 rfl) rfl (X.box rfl (F.ev 28 (.agg #[.int .i64 gr, .int .i64 hold, .slice na n nc, .slice la m lc, .slice none 0 0])) X.bx) ?_
    clear F ac
    intro ac F
    have hq1 : w3.heap.size < w8.heap.size := hT.lt
    have g := Gr.alloc w8 (.cells #[.int .i64 gr, .int .i64 hold, .slice na n nc, .slice la m lc, .slice none 0 0] 101)
    have hb := heap_alloc_new w8 (.cells #[.int .i64 gr, .int .i64 hold, .slice na n nc, .slice la m lc, .slice none 0 0] 101)
    have hbl : w8.heap.size < (w8.alloc (.cells #[.int .i64 gr, .int .i64 hold, .slice na n nc, .slice la m lc, .slice none 0 0] 101)).heap.size := by simp
    generalize w8.alloc (.cells #[.int .i64 gr, .int .i64 hold, .slice na n nc, .slice la m lc, .slice none 0 0] 101) = w10 at *
    replace G := G.trans g
    replace hC := hC.gr g
    replace hnd := hnd.gr g
    replace hl := hl.gr g
    replace hT := hT.gr g
    have hB := pval_new hb
    clear g hb hbl
    refine Y.pval F (X.w0 rfl) rfl (X.assign rfl (F.ev 29 (.pointer (some ⟨w8.heap.size, 0, none⟩)))) ?_
    clear F ac
    intro ac F
    refine Y.nil ?_
    replace F : Fr ac 52 [(0, .agg #[.int .i64 gr, .int .i64 hold, .slice na n nc]), (1, .int .i64 t), (2, .slice la m lc), (3, .pointer (some ⟨w.heap.size, 0, none⟩)), (4, .pointer (some ⟨w3.heap.size, 0, none⟩)), (6, .pointer none), (7, .int .i64 0), (8, .int .i64 (ticksE gr hold nd t)), (9, .pointer (some ⟨w8.heap.size, 0, none⟩)), (16, .bool false), (25, .bool false)] := F.sub _
    refine X.thenN ?_
    refine Y.seq ?_
    refine Y.seq ?_
    refine Y.lit (by kernel_rfl) ?_
    refine Y.pval F (X.w0 rfl) rfl (X.field rfl (F.ev 3 (.pointer (some ⟨w.heap.size, 0, none⟩))) (X.fld Try.underlying24 rfl (Try.siz22 _) rfl rfl)) ?_
    clear F ac
    intro ac F
    refine Y.pval F (X.w0 rfl) rfl (X.load rfl (F.ev 30 (.pointer (some ⟨w.heap.size, 2, none⟩))) (X.ld1 (Try.agg22 _) (hC.at 2 rfl))) ?_
    clear F ac
    intro ac F
    refine Y.pval F (X.w0 rfl) rfl (X.len1 Try.underlying22 rfl (F.ev 31 (.slice na n nc))) ?_
    clear F ac
    intro ac F
    refine Y.pval F (X.w0 rfl) rfl (X.move rfl (X.kc (.int .i64 0) rfl)) ?_
    clear F ac
    intro ac F
    refine Y.nil ?_
    replace F : Fr ac 52 [(0, .agg #[.int .i64 gr, .int .i64 hold, .slice na n nc]), (1, .int .i64 t), (2, .slice la m lc), (3, .pointer (some ⟨w.heap.size, 0, none⟩)), (4, .pointer (some ⟨w3.heap.size, 0, none⟩)), (6, .pointer none), (7, .int .i64 0), (8, .int .i64 (ticksE gr hold nd t)), (9, .pointer (some ⟨w8.heap.size, 0, none⟩)), (16, .bool false), (25, .bool false), (31, .slice na n nc), (32, .int .i64 n), (33, .int .i64 0)] := F.sub _
    refine X.thenN ?_
    refine Y.block ?_
    have hbp1 : w8.heap.size < w10.heap.size := hB.lt
    refine Y.loop (fun me_ ac wr => ∃ (i : Nat) (v : Value), me_ = n - i ∧ i ≤ n ∧ Only (fun b => b = w8.heap.size) w10 wr ∧ OwnP wr w8.heap.size 5 (PVal gr hold na n nc la m lc v) ∧ OwnR wr w10.heap.size 104 17 v i (flatN nd i) ∧ Fr ac 52 [(0, .agg #[.int .i64 gr, .int .i64 hold, .slice na n nc]), (1, .int .i64 t), (2, .slice la m lc), (3, .pointer (some ⟨w.heap.size, 0, none⟩)), (4, .pointer (some ⟨w3.heap.size, 0, none⟩)), (6, .pointer none), (7, .int .i64 0), (8, .int .i64 (ticksE gr hold nd t)), (9, .pointer (some ⟨w8.heap.size, 0, none⟩)), (16, .bool false), (25, .bool false), (31, .slice na n nc), (32, .int .i64 n), (33, .int .i64 i)]) _ ⟨0, _, rfl, Nat.zero_le _, Only.refl _ _, hB, OwnR.nil _ _ _ _, F.sub _⟩ ?_
    have hCs := hC
    have Gs := G
    have hTs := hT
    clear F hC G hB hT hnd hl ac
    intro me_ ac w11 hI_
    obtain ⟨i, v, rfl, hi, hI, hB, hO, F⟩ := hI_
    have G := Y.Only.up Gs hI (by omega)
    have hnd := hnd0.gr G
    have hl := hl0.gr G
    have hT := hTs.only hI (by show ¬ _ = _; omega)
    have hC : RCells w11 [(⟨w.heap.size, 0, none⟩, .int .i64 gr), (⟨w.heap.size, 1, none⟩, .int .i64 hold), (⟨w.heap.size, 2, none⟩, .slice na n nc), (⟨w3.heap.size, 0, none⟩, .int .i64 t)] := (RCells.cons (hI.cell (hCs.at 0 rfl) (by show ¬ w.heap.size = w8.heap.size; omega)) (RCells.cons (hI.cell (hCs.at 1 rfl) (by show ¬ w.heap.size = w8.heap.size; omega)) (RCells.cons (hI.cell (hCs.at 2 rfl) (by show ¬ w.heap.size = w8.heap.size; omega)) (RCells.cons (hI.cell (hCs.at 3 rfl) (by show ¬ w3.heap.size = w8.heap.size; omega)) (RCells.nil _)))))
    refine Y.seq ?_
    refine Y.lit (by kernel_rfl) ?_
    refine Y.pval F (X.w0 rfl) rfl (X.binop rfl (F.ev 33 (.int .i64 i)) (F.ev 32 (.int .i64 n)) (X.lssI Try.underlying3 rfl)) ?_
    clear F ac
    intro ac F
    refine Y.nil ?_
    replace F : Fr ac 52 [(0, .agg #[.int .i64 gr, .int .i64 hold, .slice na n nc]), (1, .int .i64 t), (2, .slice la m lc), (3, .pointer (some ⟨w.heap.size, 0, none⟩)), (4, .pointer (some ⟨w3.heap.size, 0, none⟩)), (6, .pointer none), (7, .int .i64 0), (8, .int .i64 (ticksE gr hold nd t)), (9, .pointer (some ⟨w8.heap.size, 0, none⟩)), (16, .bool false), (25, .bool false), (31, .slice na n nc), (32, .int .i64 n), (33, .int .i64 i), (34, .bool (decide ((i : Int) < n)))] := F.sub _
    refine X.thenN ?_
    refine Y.seq ?_
    cases h12 : decide ((i : Int) < n) with
    | false =>
     try rw [h12] at F
     have h12p : ¬ ((i : Int) < n) := of_decide_eq_false h12
     obtain rfl : n = i := by omega
     refine Y.condF (F.ev 34 (.bool false)) ?_
     refine Y.exit ?_
     refine X.thenX ?_
     refine X.thenX ?_
     refine X.blockX ?_
     refine X.thenN ?_
     refine Y.seq ?_
     refine Y.lit (by kernel_rfl) ?_
     refine Y.pval F (X.w0 rfl) rfl (X.move rfl (F.ev 9 (.pointer (some ⟨w8.heap.size, 0, none⟩)))) ?_
     clear F ac
     intro ac F
     refine Y.pval F (X.w0 rfl) rfl (X.assign rfl (F.ev 51 (.pointer (some ⟨w8.heap.size, 0, none⟩)))) ?_
     clear F ac
     intro ac F
     refine Y.pval F (X.w0 rfl) rfl (X.assign rfl (X.kc (.int .i64 0) rfl)) ?_
     clear F ac
     intro ac F
     refine Y.nil ?_
     replace F : Fr ac 52 [(0, .agg #[.int .i64 gr, .int .i64 hold, .slice na n nc]), (1, .int .i64 t), (2, .slice la m lc), (3, .pointer (some ⟨w.heap.size, 0, none⟩)), (4, .pointer (some ⟨w3.heap.size, 0, none⟩)), (6, .pointer (some ⟨w8.heap.size, 0, none⟩)), (7, .int .i64 0), (8, .int .i64 (ticksE gr hold nd t)), (9, .pointer (some ⟨w8.heap.size, 0, none⟩)), (16, .bool false), (25, .bool false), (31, .slice na n nc), (32, .int .i64 n), (33, .int .i64 n), (34, .bool false)] := F.sub _
     refine X.thenN ?_
     refine Y.ret ?_
     refine Y.ret0 (v := .tuple #[.pointer (some ⟨w8.heap.size, 0, none⟩), .int .i64 0]) F (Y.rs2 F rfl (by kernel_rfl) (by kernel_rfl)) ⟨fun h => absurd (playE_good hnd.len hl.len hE (by omega) (by simpa using h9)) h, G, fun _ => ⟨_, rfl, ?_⟩⟩
     rcases hO.shape with ⟨rfl, h0⟩ | ⟨g2, c2, rfl, hg2, hg3⟩
     ·subst h0
      exact ⟨w3.heap.size, none, 0, ⟨G, s9p hB, hl0, by omega, by omega, by omega, fun h => by omega⟩, hT⟩
     ·exact ⟨g2, _, c2, ⟨G, s9p hB, hl0, by omega, by omega, by omega, fun _ => rfl⟩, hO.ownP (fun j u h => flatN_at h)⟩
    | true =>
     try rw [h12] at F
     have h12p : ((i : Int) < n) := of_decide_eq_true h12
     refine Y.condT (F.ev 34 (.bool true)) ?_
     refine Y.skip ?_
     refine X.thenN ?_
     refine Y.seq ?_
     refine Y.block ?_
     refine Y.seq ?_
     refine Y.lit (by kernel_rfl) ?_
     obtain ⟨pd13, pe13, -, -, pc13⟩ := hnd.at (j := i) (by omega)
     subst pe13
     replace hC : RCells w11 [(⟨w.heap.size, 0, none⟩, .int .i64 gr), (⟨w.heap.size, 1, none⟩, .int .i64 hold), (⟨w.heap.size, 2, none⟩, .slice (some pd13) n nc), (⟨w3.heap.size, 0, none⟩, .int .i64 t), (pd13.add (i * 5), .int .i64 (cv nd i 0)), (⟨(pd13.add (i * 5)).block, (pd13.add (i * 5)).off + 1, none⟩, .int .i64 (cv nd i 1)), (⟨(pd13.add (i * 5)).block, (pd13.add (i * 5)).off + 2, none⟩, .int .i64 (cv nd i 2)), (⟨(pd13.add (i * 5)).block, (pd13.add (i * 5)).off + 3, none⟩, .int .i64 (cv nd i 3)), (⟨(pd13.add (i * 5)).block, (pd13.add (i * 5)).off + 4, none⟩, .int .i64 (cv nd i 4))] := hC.append ((RCells.cons (pc13 0 (by decide)) (RCells.cons (pc13 1 (by decide)) (RCells.cons (pc13 2 (by decide)) (RCells.cons (pc13 3 (by decide)) (RCells.cons (pc13 4 (by decide)) (RCells.nil _)))))))
     clear pc13
     refine Y.pval F (X.w0 rfl) rfl (X.index rfl (F.ev 31 (.slice (some pd13) n nc)) (F.ev 33 (.int .i64 i)) (X.idx (k := i) Try.underlying22 (Try.siz31 _) (by omega) (by omega) rfl)) ?_
     clear F ac
     intro ac F
     refine Y.pval F (X.w0 rfl) rfl (X.load rfl (F.ev 35 (.pointer (some (pd13.add (i * 5))))) (X.ldN (Try.agg31 _) (Try.siz31 _) (Y.atz (pd13.add (i * 5)) (Y.AtFrom.cons (hC.at 4 rfl) (Y.AtFrom.cons (hC.at 5 rfl) (Y.AtFrom.cons (hC.at 6 rfl) (Y.AtFrom.cons (hC.at 7 rfl) (Y.AtFrom.cons (hC.at 8 rfl) (Y.AtFrom.nil _ _ _))))))))) ?_
     clear F ac
     intro ac F
     refine Y.pval F (X.w0 rfl) rfl (Y.al rfl (Try.new31 _)) ?_
     clear F ac
     intro ac F
     refine Y.punit F (X.w0 rfl) rfl (X.store rfl (F.ev 11 (.pointer (some ⟨w11.heap.size, 0, none⟩))) (F.ev 36 (.agg #[.int .i64 (cv nd i 0), .int .i64 (cv nd i 1), .int .i64 (cv nd i 2), .int .i64 (cv nd i 3), .int .i64 (cv nd i 4)])) (Y.stNew [.int .i64 (cv nd i 0), .int .i64 (cv nd i 1), .int .i64 (cv nd i 2), .int .i64 (cv nd i 3), .int .i64 (cv nd i 4)] [.int .i64 0, .int .i64 0, .int .i64 0, .int .i64 0, .int .i64 0] (Try.siz31 _) rfl rfl)) ?_
     clear F ac
     intro ac F
     have g := Gr.alloc w11 (.cells #[.int .i64 (cv nd i 0), .int .i64 (cv nd i 1), .int .i64 (cv nd i 2), .int .i64 (cv nd i 3), .int .i64 (cv nd i 4)] 31)
     have hb := heap_alloc_new w11 (.cells #[.int .i64 (cv nd i 0), .int .i64 (cv nd i 1), .int .i64 (cv nd i 2), .int .i64 (cv nd i 3), .int .i64 (cv nd i 4)] 31)
     have hbl : w11.heap.size < (w11.alloc (.cells #[.int .i64 (cv nd i 0), .int .i64 (cv nd i 1), .int .i64 (cv nd i 2), .int .i64 (cv nd i 3), .int .i64 (cv nd i 4)] 31)).heap.size := by simp
     have hC2 : RCells (w11.alloc (.cells #[.int .i64 (cv nd i 0), .int .i64 (cv nd i 1), .int .i64 (cv nd i 2), .int .i64 (cv nd i 3), .int .i64 (cv nd i 4)] 31)) [(⟨w.heap.size, 0, none⟩, .int .i64 gr), (⟨w.heap.size, 1, none⟩, .int .i64 hold), (⟨w.heap.size, 2, none⟩, .slice (some pd13) n nc), (⟨w3.heap.size, 0, none⟩, .int .i64 t), (pd13.add (i * 5), .int .i64 (cv nd i 0)), (⟨(pd13.add (i * 5)).block, (pd13.add (i * 5)).off + 1, none⟩, .int .i64 (cv nd i 1)), (⟨(pd13.add (i * 5)).block, (pd13.add (i * 5)).off + 2, none⟩, .int .i64 (cv nd i 2)), (⟨(pd13.add (i * 5)).block, (pd13.add (i * 5)).off + 3, none⟩, .int .i64 (cv nd i 3)), (⟨(pd13.add (i * 5)).block, (pd13.add (i * 5)).off + 4, none⟩, .int .i64 (cv nd i 4)), (⟨w11.heap.size, 0, none⟩, .int .i64 (cv nd i 0)), (⟨w11.heap.size, 1, none⟩, .int .i64 (cv nd i 1)), (⟨w11.heap.size, 2, none⟩, .int .i64 (cv nd i 2)), (⟨w11.heap.size, 3, none⟩, .int .i64 (cv nd i 3)), (⟨w11.heap.size, 4, none⟩, .int .i64 (cv nd i 4))] := hC.box (b := w11.heap.size) #[.int .i64 (cv nd i 0), .int .i64 (cv nd i 1), .int .i64 (cv nd i 2), .int .i64 (cv nd i 3), .int .i64 (cv nd i 4)] 31 rfl
     generalize w11.alloc (.cells #[.int .i64 (cv nd i 0), .int .i64 (cv nd i 1), .int .i64 (cv nd i 2), .int .i64 (cv nd i 3), .int .i64 (cv nd i 4)] 31) = w14 at *
     replace G := G.trans g
     replace hC := hC2
     clear hC2
     replace hI := hI.thenGr g
     replace hnd := hnd.gr g
     replace hl := hl.gr g
     replace hB := hB.gr g
     replace hT := hT.gr g
     replace hO := hO.gr g
     clear g hb hbl
     refine Y.nil ?_
     replace F : Fr ac 52 [(0, .agg #[.int .i64 gr, .int .i64 hold, .slice (some pd13) n nc]), (1, .int .i64 t), (2, .slice la m lc), (3, .pointer (some ⟨w.heap.size, 0, none⟩)), (4, .pointer (some ⟨w3.heap.size, 0, none⟩)), (6, .pointer none), (7, .int .i64 0), (8, .int .i64 (ticksE gr hold nd t)), (9, .pointer (some ⟨w8.heap.size, 0, none⟩)), (11, .pointer (some ⟨w11.heap.size, 0, none⟩)), (16, .bool false), (25, .bool false), (31, .slice (some pd13) n nc), (32, .int .i64 n), (33, .int .i64 i), (34, .bool true)] := F.sub _
     refine X.thenN ?_
     replace hC : RCells w14 [(⟨w.heap.size, 0, none⟩, .int .i64 gr), (⟨w.heap.size, 1, none⟩, .int .i64 hold), (⟨w.heap.size, 2, none⟩, .slice (some pd13) n nc), (⟨w3.heap.size, 0, none⟩, .int .i64 t), (pd13.add (i * 5), .int .i64 (cv nd i 0)), (⟨(pd13.add (i * 5)).block, (pd13.add (i * 5)).off + 1, none⟩, .int .i64 (cv nd i 1)), (⟨(pd13.add (i * 5)).block, (pd13.add (i * 5)).off + 2, none⟩, .int .i64 (cv nd i 2)), (⟨(pd13.add (i * 5)).block, (pd13.add (i * 5)).off + 3, none⟩, .int .i64 (cv nd i 3)), (⟨(pd13.add (i * 5)).block, (pd13.add (i * 5)).off + 4, none⟩, .int .i64 (cv nd i 4)), (⟨w11.heap.size, 0, none⟩, .int .i64 (cv nd i 0)), (⟨w11.heap.size, 1, none⟩, .int .i64 (cv nd i 1)), (⟨w11.heap.size, 2, none⟩, .int .i64 (cv nd i 2)), (⟨w11.heap.size, 3, none⟩, .int .i64 (cv nd i 3)), (⟨w11.heap.size, 4, none⟩, .int .i64 (cv nd i 4)), (⟨w8.heap.size, 4, none⟩, v)] := hC.append ((RCells.cons (hB.cell (k := 4) (by decide)) (RCells.nil _)))
     have hsz0 : w10.heap.size ≤ w14.heap.size := hI.size
     refine region_xi F [some (.pointer (some ⟨w8.heap.size, 0, none⟩)), some (.pointer (some ⟨w8.heap.size, 0, none⟩)), some (.pointer (some ⟨w8.heap.size, 0, none⟩)), some (.pointer (some ⟨w8.heap.size, 4, none⟩)), some (v), some (.agg #[.int .i64 (cv nd i 0), .int .i64 (cv nd i 1), .int .i64 (cv nd i 2), .int .i64 (cv nd i 3), .int .i64 (cv nd i 4)]), some (.pointer (some ⟨w11.heap.size, 3, none⟩)), some (.int .i64 (cv nd i 3)), some (.agg #[.int .i64 (cv nd i 0), .int .i64 (cv nd i 1), .int .i64 (cv nd i 2), .int .i64 (cv nd i 3), .int .i64 (cv nd i 4), .int .i64 0, .int .i64 0, .int .i64 0, .int .i64 0, .int .i64 0, .int .i64 0, .int .i64 0, .int .i64 0, .int .i64 0, .int .i64 0, .int .i64 (cv nd i 3), .bool false]), none, none, some (.pointer (some ⟨w8.heap.size, 0, none⟩)), some (.pointer (some ⟨w8.heap.size, 4, none⟩)), none] (RAp w14 9 10 13 (fun v W => ∃ g9, v = .slice (some ⟨g9, 0, none⟩) 1 1 ∧ W.heap[g9]? = some (.cells (row17 nd i).toArray 104)) (fun x W => ∃ g2 c2, x = .slice (some ⟨g2, 0, none⟩) (i + 1) c2 ∧ OwnR W w10.heap.size 104 17 (.slice (some ⟨g2, 0, none⟩) (i + 1) c2) (i + 1) (flatN nd i ++ row17 nd i) ∧ Only (fun b => v.ownBlock = some b) w14 W) (fun W => ∃ g2 c2, OwnR W w10.heap.size 104 17 (.slice (some ⟨g2, 0, none⟩) (i + 1) c2) (i + 1) (flatN nd i ++ row17 nd i) ∧ OwnP W w8.heap.size 5 (PVal gr hold (some pd13) n nc la m lc (.slice (some ⟨g2, 0, none⟩) (i + 1) c2)) ∧ Only (fun b => b = w8.heap.size) w10 W)) rfl ⟨by kernel_rfl, of_decide_eq_true (by kernel_rfl), by kernel_rfl, by kernel_rfl, by kernel_rfl⟩ (fun _ => ⟨RAp.start (Gr.refl _), RAp.start (Gr.drew _)⟩) ⟨?_, ?_, ?_, ?_, ?_, ?_, ?_, ?_, ?_, ?_, ?_, ?_, ?_, ?_, trivial⟩ ?_
     ·intro ac done u W Sx hR
      exact X.val (X.w0 rfl) rfl (X.move rfl (Sx.ev 9 (.pointer (some ⟨w8.heap.size, 0, none⟩)))) (hR.quiet (by decide))
     ·intro ac done u W Sx hR
      exact X.val (X.w0 rfl) rfl (X.move rfl (Sx.ev 9 (.pointer (some ⟨w8.heap.size, 0, none⟩)))) (hR.quiet (by decide))
     ·intro ac done u W Sx hR
      exact X.val (X.w0 rfl) rfl (Y.nilC rfl (Sx.ev 38 (.pointer (some ⟨w8.heap.size, 0, none⟩)))) (hR.quiet (by decide))
     ·intro ac done u W Sx hR
      exact X.val (X.w0 rfl) rfl (X.field rfl (Sx.ev 39 (.pointer (some ⟨w8.heap.size, 0, none⟩))) (X.fld Try.underlying101 rfl (Try.siz99 _) rfl rfl)) (hR.quiet (by decide))
     ·intro ac done u W Sx hR
      have g : Gr w14 W := hR.g (Sx.no 10 (by kernel_rfl)) (Sx.no 13 (by kernel_rfl))
      exact X.val (X.w0 rfl) rfl (X.load rfl (Sx.ev 40 (.pointer (some ⟨w8.heap.size, 4, none⟩))) (X.ld1 (Try.agg99 _) ((hC.gr g).at 14 rfl))) (hR.quiet (by decide))
     ·intro ac done u W Sx hR
      have g : Gr w14 W := hR.g (Sx.no 10 (by kernel_rfl)) (Sx.no 13 (by kernel_rfl))
      exact X.val (X.w0 rfl) rfl (X.load rfl (Sx.ev 11 (.pointer (some ⟨w11.heap.size, 0, none⟩))) (X.ldN (Try.agg31 _) (Try.siz31 _) (Y.atz (⟨w11.heap.size, 0, none⟩) (Y.AtFrom.cons ((hC.gr g).at 9 rfl) (Y.AtFrom.cons ((hC.gr g).at 10 rfl) (Y.AtFrom.cons ((hC.gr g).at 11 rfl) (Y.AtFrom.cons ((hC.gr g).at 12 rfl) (Y.AtFrom.cons ((hC.gr g).at 13 rfl) (Y.AtFrom.nil _ _ _))))))))) (hR.quiet (by decide))
     ·intro ac done u W Sx hR
      exact X.val (X.w0 rfl) rfl (X.field rfl (Sx.ev 11 (.pointer (some ⟨w11.heap.size, 0, none⟩))) (X.fld Try.underlying31 rfl (Try.siz3 _) rfl rfl)) (hR.quiet (by decide))
     ·intro ac done u W Sx hR
      have g : Gr w14 W := hR.g (Sx.no 10 (by kernel_rfl)) (Sx.no 13 (by kernel_rfl))
      exact X.val (X.w0 rfl) rfl (X.load rfl (Sx.ev 43 (.pointer (some ⟨w11.heap.size, 3, none⟩))) (X.ld1 (Try.agg3 _) ((hC.gr g).at 12 rfl))) (hR.quiet (by decide))
     ·intro ac done u W Sx hR
      exact X.val (X.w0 rfl) rfl (Y.bd rfl (Y.b03 (Sx.ev 42 (.agg #[.int .i64 (cv nd i 0), .int .i64 (cv nd i 1), .int .i64 (cv nd i 2), .int .i64 (cv nd i 3), .int .i64 (cv nd i 4)])) (Sx.ev 44 (.int .i64 (cv nd i 3)))) (Try.bd104 _ _ _ _ _ _ _)) (hR.quiet (by decide))
     ·intro ac done u W Sx hR
      have g : Gr w14 W := hR.g (Sx.no 10 (by kernel_rfl)) (Sx.no 13 (by kernel_rfl))
      exact X.valN (X.w0 rfl) rfl (X.bs rfl (X.b1 (Sx.ev 45 (.agg #[.int .i64 (cv nd i 0), .int .i64 (cv nd i 1), .int .i64 (cv nd i 2), .int .i64 (cv nd i 3), .int .i64 (cv nd i 4), .int .i64 0, .int .i64 0, .int .i64 0, .int .i64 0, .int .i64 0, .int .i64 0, .int .i64 0, .int .i64 0, .int .i64 0, .int .i64 0, .int .i64 (cv nd i 3), .bool false]))) (Try.bs99 _ _ _ _ _ _ _)) (hR.s9 (by decide) (Sx.no 10 (by kernel_rfl)) (Sx.no 13 (by kernel_rfl)) (Gr.alloc _ _) ⟨_, rfl, World.alloc_heap_new _ _⟩)
     ·intro ac done u W Sx hR
      have g : Gr w14 W := hR.g Sx.nd (Sx.no 13 (by kernel_rfl))
      have hgs := g.size
      obtain ⟨g9, e9, hg9⟩ := hR.g9 (Sx.an 9 (by kernel_rfl)) Sx.nd (Sx.no 13 (by kernel_rfl))
      exact X.law (X.w0 rfl) (fun K hK => wp_pushV Try.underlying99 Try.info104 rfl (by decide) rfl (Sx.ev 41 (v)) ((Sx.own 9 46 rfl).trans e9) (hO.gr g) (m := 1) (news := row17 nd i) rfl (cells_at hg9) rfl (by omega) (by decide) (by omega) (fun v2 W2 hO2 hon hat => hK v2 W2 (fun x hx => by cases hx) (hR.s10 (by decide) (Sx.no 13 (by kernel_rfl)) (by
       have hsh := hO2.shape
       rcases hsh with ⟨_, h0⟩ | ⟨g2, c2, e2, _⟩
       ·omega
       ·subst e2; exact ⟨g2, c2, rfl, hO2, (g.only _).trans hon⟩))))
     ·intro ac done u W Sx hR
      exact X.val (X.w0 rfl) rfl (Y.nilC rfl (Sx.ev 37 (.pointer (some ⟨w8.heap.size, 0, none⟩)))) (hR.quiet (by decide))
     ·intro ac done u W Sx hR
      exact X.val (X.w0 rfl) rfl (X.field rfl (Sx.ev 48 (.pointer (some ⟨w8.heap.size, 0, none⟩))) (X.fld Try.underlying101 rfl (Try.siz99 _) rfl rfl)) (hR.quiet (by decide))
     ·intro ac done u W Sx hR
      obtain ⟨g2, c2, e2, hO2, hon⟩ := hR.g10 (Sx.an 10 (by kernel_rfl)) Sx.nd
      have hge := fun b e => hO.ge (b := b) e
      have hB2 := hB.only hon (fun e => by have := (hge _ e).1; omega)
      have hg2 := (hO2.ge (b := g2) rfl).1
      refine X.unit (X.w0 rfl) rfl (X.store rfl (Sx.ev 49 (.pointer (some ⟨w8.heap.size, 4, none⟩))) ((Sx.own 10 47 rfl).trans e2) (hB2.st1 (Try.siz99 _) rfl rfl (by decide))) (RAp.s13 ⟨g2, c2, ?_, (hB2.set _).congr (PVal_set _ _ _ _ _ _ _ _ _ _), ?_⟩)
      ·exact hO2.only (Y.set_only _ _ _ _) (fun b e h => by simp [Value.ownBlock] at e; omega)
      ·exact (hI.step2 hon (fun r e => .inr (hge r e).1)).step (Y.set_only _ _ _ _) (.inl rfl)
     rintro ac u w15 hs hd hl_ ho hR
     obtain ⟨g2, c2, hO, hB, hI⟩ := hR.g13 rfl
     replace F : Fr ac 52 [(0, .agg #[.int .i64 gr, .int .i64 hold, .slice (some pd13) n nc]), (1, .int .i64 t), (2, .slice la m lc), (3, .pointer (some ⟨w.heap.size, 0, none⟩)), (4, .pointer (some ⟨w3.heap.size, 0, none⟩)), (6, .pointer none), (7, .int .i64 0), (8, .int .i64 (ticksE gr hold nd t)), (9, .pointer (some ⟨w8.heap.size, 0, none⟩)), (11, .pointer (some ⟨w11.heap.size, 0, none⟩)), (16, .bool false), (25, .bool false), (31, .slice (some pd13) n nc), (32, .int .i64 n), (33, .int .i64 i), (34, .bool true)] := X.fr hs hd hl_ _ (by kernel_rfl)
     clear hs hd hl_ ho hR hC G hnd hl hT
     have G := Y.Only.up Gs hI (by omega)
     have hC := RCells.nil w15
     refine X.blockN ?_
     refine X.thenN ?_
     refine Y.lit (by kernel_rfl) ?_
     refine Y.pval F (X.w0 rfl) rfl (X.binop rfl (F.ev 33 (.int .i64 i)) (X.kc (.int .i64 1) rfl) (X.addI Try.underlying3 rfl (by omega) (by omega))) ?_
     clear F ac
     intro ac F
     refine Y.pval F (X.w0 rfl) rfl (X.move rfl (F.ev 50 (.int .i64 ((i : Int) + 1)))) ?_
     clear F ac
     intro ac F
     refine Y.nil ?_
     replace F : Fr ac 52 [(0, .agg #[.int .i64 gr, .int .i64 hold, .slice (some pd13) n nc]), (1, .int .i64 t), (2, .slice la m lc), (3, .pointer (some ⟨w.heap.size, 0, none⟩)), (4, .pointer (some ⟨w3.heap.size, 0, none⟩)), (6, .pointer none), (7, .int .i64 0), (8, .int .i64 (ticksE gr hold nd t)), (9, .pointer (some ⟨w8.heap.size, 0, none⟩)), (11, .pointer (some ⟨w11.heap.size, 0, none⟩)), (16, .bool false), (25, .bool false), (31, .slice (some pd13) n nc), (32, .int .i64 n), (33, .int .i64 ((i : Int) + 1)), (34, .bool true)] := F.sub _
     refine X.thenN ?_
     refine ⟨_, ?_, i + 1, .slice (some ⟨g2, 0, none⟩) (i + 1) c2, rfl, by omega, hI, hB, by rw [flatN_succ]; exact hO, F.sub _⟩
     omega
  | true =>
   try rw [h7] at F
   have h7p : ((200 : Int) < m) := of_decide_eq_true h7
   refine Y.pskip F (X.w2 rfl (F.yl (j := 3) (d := 21) (b := true) rfl (by kernel_rfl)) rfl) rfl ?_
   clear F ac
   intro ac F
   refine Y.pskip F (X.w2 rfl (F.yl (j := 3) (d := 21) (b := true) rfl (by kernel_rfl)) rfl) rfl ?_
   clear F ac
   intro ac F
   refine Y.pskip F (X.w2 rfl (F.yl (j := 3) (d := 21) (b := true) rfl (by kernel_rfl)) rfl) rfl ?_
   clear F ac
   intro ac F
   refine Y.pval F (X.w0 rfl) rfl (X.pickT rfl (F.ev 21 (.bool true)) (X.kc (.bool true) rfl)) ?_
   clear F ac
   intro ac F
   refine Y.nil ?_
   replace F : Fr ac 52 [(0, .agg #[.int .i64 gr, .int .i64 hold, .slice na n nc]), (1, .int .i64 t), (2, .slice la m lc), (3, .pointer (some ⟨w.heap.size, 0, none⟩)), (4, .pointer (some ⟨w3.heap.size, 0, none⟩)), (6, .pointer none), (7, .int .i64 0), (8, .int .i64 (ticksE gr hold nd t)), (16, .bool false), (25, .bool true)] := F.sub _
   refine X.thenN ?_
   refine Y.condT (F.ev 25 (.bool true)) ?_
   refine Y.seq ?_
   refine Y.lit (by kernel_rfl) ?_
   refine Y.pval F (X.w0 rfl) rfl (X.assign rfl (X.kc (.pointer none) rfl)) ?_
   clear F ac
   intro ac F
   refine Y.pval F (X.w0 rfl) rfl (X.assign rfl (X.kc (.int .i64 91) rfl)) ?_
   clear F ac
   intro ac F
   refine Y.nil ?_
   replace F : Fr ac 52 [(0, .agg #[.int .i64 gr, .int .i64 hold, .slice na n nc]), (1, .int .i64 t), (2, .slice la m lc), (3, .pointer (some ⟨w.heap.size, 0, none⟩)), (4, .pointer (some ⟨w3.heap.size, 0, none⟩)), (6, .pointer none), (7, .int .i64 91), (8, .int .i64 (ticksE gr hold nd t)), (16, .bool false), (25, .bool true)] := F.sub _
   refine X.thenN ?_
   refine Y.ret ?_
   refine X.thenR ?_
   exact Y.ret0 (v := .tuple #[.pointer none, .int .i64 91]) F (Y.rs2 F rfl (by kernel_rfl) (by kernel_rfl)) ⟨fun _ => by rw [(playE_bad1 hl.len hE (by omega))], G, fun h => by rw [(playE_bad1 hl.len hE (by omega))] at h; cases h⟩
 | true =>
  try rw [h6] at F
  have h6p : ¬ (ticksE gr hold nd t : Int) = 0 := by simpa using h6
  have hE : ¬ ticksE gr hold nd t = 0 := by simpa using h6p
  refine Y.condT (F.ev 16 (.bool true)) ?_
  refine Y.seq ?_
  refine Y.lit (by kernel_rfl) ?_
  refine Y.pval F (X.w0 rfl) rfl (X.move rfl (F.ev 8 (.int .i64 (ticksE gr hold nd t)))) ?_
  clear F ac
  intro ac F
  refine Y.pval F (X.w0 rfl) rfl (X.assign rfl (X.kc (.pointer none) rfl)) ?_
  clear F ac
  intro ac F
  refine Y.pval F (X.w0 rfl) rfl (X.assign rfl (F.ev 17 (.int .i64 (ticksE gr hold nd t)))) ?_
  clear F ac
  intro ac F
  refine Y.nil ?_
  replace F : Fr ac 52 [(0, .agg #[.int .i64 gr, .int .i64 hold, .slice na n nc]), (1, .int .i64 t), (2, .slice la m lc), (3, .pointer (some ⟨w.heap.size, 0, none⟩)), (4, .pointer (some ⟨w3.heap.size, 0, none⟩)), (6, .pointer none), (7, .int .i64 (ticksE gr hold nd t)), (8, .int .i64 (ticksE gr hold nd t)), (16, .bool true)] := F.sub _
  refine X.thenN ?_
  refine Y.ret ?_
  refine X.thenR ?_
  exact Y.ret0 (v := .tuple #[.pointer none, .int .i64 (ticksE gr hold nd t)]) F (Y.rs2 F rfl (by kernel_rfl) (by kernel_rfl)) ⟨fun _ => by rw [playE, if_pos hE], G, fun h => absurd h (by rw [playE, if_pos hE]; exact hE)⟩
end
end Go.Proofs.Ytoalamakhjbedaa
