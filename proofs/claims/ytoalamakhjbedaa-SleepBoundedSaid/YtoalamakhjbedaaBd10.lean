/- Several texts of this claim in one file. (1) A parked node takes at most what Worst says, and just that with the noise of Noises. Nothing of the program is proved here. (2) The greatest number of awake ticks, as a table; tables of rows of numbers. Nothing of the program is walked here. (3) Whoever has more tokens, or gets them sooner, or stays awake longer, can be kept awake in no fewer ticks. Nothing of the program is proved here. (4) Contracts: slices.ContainsFunc of nudges that are not right. (5) Contract: the beginning of a play. -/
import Derived.Test.YtoalamakhjbedaaBd9
import Derived.Laws.MakeOwn
import Derived.Test.YtoalamakhjbedaaBd8
import Derived.Test.YtoalamakhjbedaaBd2
import Derived.Test.YtoalamakhjbedaaBd3
namespace Go.Proofs.Ytoalamakhjbedaa
section
set_option linter.unusedVariables false
open Go.RowKit
/-- nobody asks -/
def NoAsk (l : List (List Int)) : Prop := ∀ x ∈ l, nv x 1 ≠ 1
theorem leave_zero {g : Int} (h0 : 0 ≤ g) (h8 : g < 8) : anotV (orV 0 (shlV 1 g)) (shlV 1 g) = 0 := by
  obtain rfl | rfl | rfl | rfl | rfl | rfl | rfl | rfl : g = 0 ∨ g = 1 ∨ g = 2 ∨ g = 3 ∨ g = 4 ∨ g = 5 ∨ g = 6 ∨ g = 7 := by omega
  all_goals decide
section
variable {gr hold t : Int} {nd l : List (List Int)}
theorem noask_step {n : Nat} {s : PS} {u : Int} (hs : ∀ a, a < n → s a 5 = 0) (hn : NoAsk l) (hl : NuAll gr nd t l) (h8 : gr ≤ 8) : ∀ a, a < n → askS l u s a 5 = 0 := by
  unfold askS
  refine foldl_keep (P := fun z : PS => ∀ a, a < n → z a 5 = 0) _ _ hs (fun x hx z hz a ha => ?_)
  have harg := hl.args h8 hx
  obtain ⟨h1, h2⟩ := List.mem_filter.1 hx
  have hk : nv x 1 = 2 := by
    have h3 := hn x h1
    unfold pickB at h2
    simp at h2
    omega
  unfold askX askA
  rw [if_pos hk]
  by_cases e : a = (nv x 2).toNat
  · subst e
    rw [up_same, up_same, hz _ ha]
    exact leave_zero harg.1 harg.2
  · rw [up_ne _ _ (.inl e), up_ne _ _ (.inl e)]
    exact hz a ha
theorem noask (hE : playE gr hold nd t l = 0) (hn : NoAsk l) : ∀ k, ∀ a, a < nd.length → (runFrom hold gr.toNat nd.length l (startS nd) k).s a 5 = 0 ∧ askT hold gr.toNat nd.length l (startS nd) k a 5 = 0 := by
  have hok := playE_ok hE
  have hn16 := hok.c.n16
  have hg8 := hok.c.g8
  have hall : NuAll gr nd t l := fun x hx => by
    obtain ⟨i, hi, rfl⟩ := List.getElem_of_mem hx
    have := hok.nu i hi
    rwa [List.getElem?_eq_getElem hi] at this
  intro k
  induction k with
  | zero => exact fun a ha => ⟨rfl, noask_step (s := (runFrom hold gr.toNat nd.length l (startS nd) 0).s) (fun _ _ => rfl) hn hall hg8 a ha⟩
  | succ k ih =>
    have h1 : ∀ a, a < nd.length → (runFrom hold gr.toNat nd.length l (startS nd) (k + 1)).s a 5 = 0 := fun a ha => by
      rw [run_st (by omega) ha, passN_ne (.inr (.inl (by omega)))]
      show sendS hold gr.toNat nd.length _ _ a 5 = 0
      rw [sendS_lo (.inl (by omega)) (by omega), disT_ask]
      exact (ih a ha).2
    exact fun a ha => ⟨h1 a ha, noask_step h1 hn hall hg8 a ha⟩
theorem noask_and (hE : playE gr hold nd t l = 0) (hn : NoAsk l) {k i : Nat} (hk : k < t.toNat) (hi : i < nd.length) : andV ((playAsk gr hold nd t l)[k]?.getD 0) (cv nd i 0) = 0 := by
  have hok := playE_ok hE
  have hn16 := hok.c.n16
  obtain ⟨G, hG, hG2, hG3⟩ := hok.c.groups hi
  obtain ⟨A, h1, h2, h3⟩ := asks_nat (fun i hi => askT_ok hE k hi) nd.length (Nat.le_refl _)
  rw [play_ask hE hk, hG]
  unfold asksG
  rw [h1]
  refine Classical.byContradiction fun hne => ?_
  obtain ⟨b, hb, _⟩ := (and_bit (by omega) (by omega)).1 hne
  obtain ⟨j, hj, hjb⟩ := (h3 b).1 hb
  rw [(noask hE hn k j hj).2] at hjb
  rw [show ((0 : Int).toNat) = 0 from rfl, Nat.zero_testBit] at hjb
  cases hjb
theorem en_take (hE : playE gr hold nd t l = 0) {i : Nat} (hi : i < nd.length) : (playEn gr hold nd t l)[i]?.getD 0 = enS nd ((playRows gr hold nd t l).take t.toNat) i := by
  rw [List.take_of_length_le (by rw [playRows_len hE]; exact Nat.le_refl _)]
  unfold playEn playRows
  rw [if_pos hE, if_pos hE]
  simp [hi]
theorem rest_quiet (hE : playE gr hold nd t l = 0) (hn : NoAsk l) {i : Nat} (hi : i < nd.length) : ∀ k, k ≤ t.toNat → restV nd (playAsk gr hold nd t l) (playRows gr hold nd t l) hold i k = enS nd ((playRows gr hold nd t l).take k) i
  | 0, _ => by simp [restV, enS]
  | k + 1, hk => by
    have hl := playRows_len hE
    rw [enS_take (by omega) i, ← rest_quiet hE hn hi k (by omega)]
    have hc : callB (playAsk gr hold nd t l) (cv nd i 0) hold k = false := by
      cases e : callB (playAsk gr hold nd t l) (cv nd i 0) hold k with
      | false => rfl
      | true =>
        obtain ⟨a, h1, h2⟩ := anyB_iff.1 e
        rw [Bool.and_eq_true] at h2
        have h3 := noask_and hE hn (k := a) (by omega) hi
        rw [h3] at h2
        exact absurd h2.2 (by decide)
    simp only [restV]
    rw [hc]
    simp
/-- in a play without Ask -/
theorem bounded_le (hE : playE gr hold nd t l = 0) (hn : NoAsk l) {i : Nat} (hi : i < nd.length) : nodeE gr hold nd i t = 0 ∧ (playEn gr hold nd t l)[i]?.getD 0 ≤ worstV gr hold nd i t := by
  have h := rest_worst hE hi
  rw [rest_quiet hE hn hi _ (Nat.le_refl _)] at h
  exact ⟨h.1, by rw [en_take hE hi]; exact h.2⟩
end
/-- whether the noise of Noises wakes it -/
def wkB (p : Nd) (t x : Int) : Bool := !(decide (refV p t x = 0)) && takeB p t x
def enN (p : Nd) : Nat → Int → Int → Nat → Int
  | 0, _, _, _ => 0
  | m + 1, t, x, r =>
    if r = 0 then (if wkB p t x then p.aw + enN p m (t + 1) (refV p t x - 1) p.hold.toNat else p.za + enN p m (t + 1) (refV p t x) 0)
    else if r = 1 then p.za + enN p m (t + 1) (refV p t x) 0 else p.aw + enN p m (t + 1) (refV p t x) (r - 1)
def noN (p : Nd) : Nat → Int → Int → Nat → List Int
  | 0, _, _, _ => []
  | m + 1, t, x, r => if r = 0 ∧ wkB p t x = true then t :: noN p m (t + 1) (refV p t x - 1) p.hold.toNat else noN p m (t + 1) (refV p t x) (r - 1)
theorem enN_path {p : Nd} (h : NdOk p) {t y : Int} (m : Nat) : ∀ k : Nat, (k : Int) ≤ p.hold → k ≤ m → p.aw + enN p m (t + 1) (y - 1) p.hold.toNat = (wkV p t y k).2 + enN p (m - k) (t + 1 + k) (wkV p t y k).1 (p.hold.toNat - k)
  | 0, _, _ => by simp [wkV]
  | k + 1, h1, h2 => by
    have ih := enN_path h (t := t) (y := y) m k (by omega) (by omega)
    have h0 := h.h0
    rw [ih]
    obtain ⟨q, hq⟩ : ∃ q, m - k = q + 1 := ⟨m - k - 1, by omega⟩
    have hq2 : m - (k + 1) = q := by omega
    rw [hq, hq2]
    simp only [wkV]
    rw [enN, if_neg (by omega)]
    have e : t + 1 + ((k + 1 : Nat) : Int) = t + 1 + k + 1 := by omega
    rw [e]
    by_cases hr : p.hold.toNat - k = 1
    · rw [if_pos hr, if_neg (by omega), show p.hold.toNat - (k + 1) = 0 from by omega]; omega
    · rw [if_neg hr, if_pos (by omega), show p.hold.toNat - (k + 1) = p.hold.toNat - k - 1 from by omega]; omega
theorem noN_path {p : Nd} (h : NdOk p) {t y : Int} (m : Nat) : ∀ k : Nat, (k : Int) ≤ p.hold → k ≤ m → noN p m (t + 1) (y - 1) p.hold.toNat = noN p (m - k) (t + 1 + k) (wkV p t y k).1 (p.hold.toNat - k)
  | 0, _, _ => by simp [wkV]
  | k + 1, h1, h2 => by
    have ih := noN_path h (t := t) (y := y) m k (by omega) (by omega)
    have h0 := h.h0
    rw [ih]
    obtain ⟨q, hq⟩ : ∃ q, m - k = q + 1 := ⟨m - k - 1, by omega⟩
    have hq2 : m - (k + 1) = q := by omega
    rw [hq, hq2]
    simp only [wkV]
    rw [noN, if_neg (by omega)]
    have e : t + 1 + ((k + 1 : Nat) : Int) = t + 1 + k + 1 := by omega
    rw [e, show p.hold.toNat - (k + 1) = p.hold.toNat - k - 1 from by omega]
theorem take_best {p : Nd} {t x : Int} (hk : takeB p t x = true) : (bestV p t x).1 = (bestV p (t + 1 + wkN p t) (wkV p t (refV p t x) (wkN p t)).1).1 + (wkV p t (refV p t x) (wkN p t)).2 := by
  unfold takeB eq2 add2 at hk
  simp only [Bool.and_eq_true, beq_iff_eq] at hk
  exact hk.1.symm
theorem skip_best {p : Nd} {t x : Int} (ht : t < p.T) (ha : ¬ refV p t x = 0) (hk : takeB p t x = false) : bestV p t x = add2 (bestV p (t + 1) (refV p t x)) (p.za, 0) := by
  have h := bestV_wake ht ha
  unfold pick2 at h
  split at h
  · have : takeB p t x = true := by unfold takeB eq2; rw [← h]; simp
    rw [hk] at this; cases this
  · exact h
theorem best_enN {p : Nd} (h : NdOk p) : ∀ (m : Nat) (t x : Int), 0 ≤ t → p.T - t = m → 0 ≤ x → x ≤ p.bu → (bestV p t x).1 = enN p m t x 0 ∧ noiV p t x = noN p m t x 0 := by
  intro m
  induction m using Nat.strongRecOn with
  | _ m ih =>
    intro t x h0 hm hx0 hx1
    have hh := h.h0
    match m, ih, hm with
    | 0, _, hm => exact ⟨by rw [bestV_done _ (by omega)]; rfl, by rw [noi_done (by omega)]; rfl⟩
    | m + 1, ih, hm =>
      have hr := refV_bd h (t := t) hx0 hx1
      have i1 := ih m (by omega) (t + 1) (refV p t x) (by omega) (by omega) hr.1 hr.2
      rw [enN, if_pos rfl, noN]
      by_cases ha : refV p t x = 0
      · have hw : wkB p t x = false := by unfold wkB; rw [ha]; rfl
        rw [hw, if_neg (by decide), if_neg (by simp), bestV_stay (by omega) ha, noi_none (by omega) ha]
        simp only [add2]
        exact ⟨by rw [i1.1]; omega, i1.2⟩
      · cases hk : takeB p t x with
        | false =>
          have hw : wkB p t x = false := by unfold wkB; rw [hk]; simp
          rw [hw, if_neg (by decide), if_neg (by simp), skip_best (by omega) ha hk, noi_skip (by omega) ha hk]
          simp only [add2]
          exact ⟨by rw [i1.1]; omega, i1.2⟩
        | true =>
          have hw : wkB p t x = true := by unfold wkB; rw [hk]; simp [ha]
          rw [hw, if_pos rfl, if_pos ⟨rfl, rfl⟩, take_best hk, noi_take (by omega) ha hk]
          have hwb := wkV_bd h (t := t) (a := refV p t x) (by omega) hr.2 (wkN p t)
          have hwn := wkN_bd h h0 (by omega)
          rw [enN_path h m (wkN p t) (by omega) (by omega), noN_path h m (wkN p t) (by omega) (by omega)]
          by_cases hN : (wkN p t : Int) = p.hold
          · rw [show p.hold.toNat - wkN p t = 0 from by omega]
            have i2 := ih (m - wkN p t) (by omega) (t + 1 + wkN p t) (wkV p t (refV p t x) (wkN p t)).1 (by omega) (by omega) hwb.1.1 hwb.1.2
            exact ⟨by rw [i2.1]; omega, by rw [i2.2]⟩
          · have hd : m - wkN p t = 0 := by
              unfold wkN at *
              simp only [Int.min_def] at *
              split at hN <;> split <;> omega
            rw [hd, bestV_done _ (by omega), noi_done (by omega)]
            exact ⟨by show (0 : Int) + _ = _ + (0 : Int); omega, rfl⟩
theorem noN_ge {p : Nd} : ∀ (m : Nat) (t x : Int) (r : Nat) (d : Int), d ∈ noN p m t x r → t ≤ d ∧ d < t + m
  | 0, t, x, r, d, h => by simp [noN] at h
  | m + 1, t, x, r, d, h => by
    rw [noN] at h
    split at h
    · rcases List.mem_cons.1 h with rfl | h
      · omega
      · have := noN_ge m _ _ _ d h; omega
    · have := noN_ge m _ _ _ d h; omega
theorem noN_len {p : Nd} : ∀ (m : Nat) (t x : Int) (r : Nat), (noN p m t x r).length ≤ m
  | 0, t, x, r => by simp [noN]
  | m + 1, t, x, r => by
    rw [noN]
    split
    · have := noN_len (p := p) m (t + 1) (refV p t x - 1) p.hold.toNat
      simp; omega
    · have := noN_len (p := p) m (t + 1) (refV p t x) (r - 1)
      omega
/-- noise for a node, and none -/
theorem noise_miss {hold : Int} {z : PS} {i : Nat} : ∀ L : List (List Int), (∀ x ∈ L, ¬ (nv x 2).toNat = i) → ∀ j, (L.foldl (noiseX hold) z) i j = z i j := by
  intro L h j
  refine foldl_keep (P := fun y : PS => y i j = z i j) _ _ rfl (fun x hx y hy => ?_)
  unfold noiseX
  split
  · rw [up_ne _ _ (.inl (Ne.symm (h x hx))), up_ne _ _ (.inl (Ne.symm (h x hx)))]; exact hy
  · exact hy
theorem noise_hit {hold : Int} (hh : 1 ≤ hold) {z : PS} {i : Nat} (h1 : z i 16 = 0) (h2 : 0 < z i 15) (h3 : z i 14 = 0) : ∀ L : List (List Int), (∃ x ∈ L, (nv x 2).toNat = i) → (∀ x ∈ L, (nv x 2).toNat = i) → (L.foldl (noiseX hold) z) i 15 = z i 15 - 1 ∧ (L.foldl (noiseX hold) z) i 14 = hold
  | [], h, _ => by obtain ⟨x, hx, _⟩ := h; cases hx
  | x :: L, _, ha => by
    have hi := ha x (by simp)
    rw [List.foldl_cons]
    have e : noiseX hold z x = up (up z i 15 (z i 15 - 1)) i 14 hold := by
      have := noiseX_pos (hold := hold) (s := z) (x := x) (by rw [hi]; exact h1) (by rw [hi]; exact h2) (by rw [hi]; exact h3)
      rwa [hi] at this
    have e14 : noiseX hold z x i 14 = hold := by rw [e, up_same]
    have e15 : noiseX hold z x i 15 = z i 15 - 1 := by rw [e, up_ne _ _ (.inr (by decide)), up_same]
    rcases noise_two hh (z := noiseX hold z x) (i := i) L with h | h
    · exact ⟨by rw [h.1, e15], by rw [h.2, e14]⟩
    · have := h.2.2.1; rw [e14] at this; omega
section
variable {gr hold t : Int} {nd l : List (List Int)}
/-- what a tick does to a node -/
theorem tick_eqs (hE : playE gr hold nd t l = 0) {i : Nat} (hi : i < nd.length) (p : Nd) (hp : p = ndV nd hold i t) {k : Nat} (hk : k < t.toNat) :
    ∃ z : PS, z i 15 = refV p k ((runFrom hold gr.toNat nd.length l (startS nd) k).s i 15) ∧ z i 14 = (runFrom hold gr.toNat nd.length l (startS nd) k).s i 14 ∧ z i 16 = (runFrom hold gr.toNat nd.length l (startS nd) k).s i 16 ∧
      sndT hold gr.toNat nd.length l (startS nd) k i 15 = ((picks l k [3]).foldl (noiseX hold) z) i 15 ∧ sndT hold gr.toNat nd.length l (startS nd) k i 14 = ((picks l k [3]).foldl (noiseX hold) z) i 14 ∧
      (runFrom hold gr.toNat nd.length l (startS nd) (k + 1)).s i 15 = sndT hold gr.toNat nd.length l (startS nd) k i 15 ∧
      (runFrom hold gr.toNat nd.length l (startS nd) (k + 1)).s i 14 = (if 0 < sndT hold gr.toNat nd.length l (startS nd) k i 14 then sndT hold gr.toNat nd.length l (startS nd) k i 14 - 1 else sndT hold gr.toNat nd.length l (startS nd) k i 14) ∧
      (runFrom hold gr.toNat nd.length l (startS nd) (k + 1)).s i 16 = (if awB (sndT hold gr.toNat nd.length l (startS nd) k) i then 1 else 0) := by
  have hok := playE_ok hE
  have hc := hok.c
  have hn16 := hc.n16
  have hg8 := hc.g8
  obtain ⟨s, hs⟩ : ∃ s, (runFrom hold gr.toNat nd.length l (startS nd) k).s = s := ⟨_, rfl⟩
  have h3 : s i 3 = cv nd i 3 := by rw [← hs]; exact run_lo (by omega) (by omega) hi (by omega) k
  have h4 : s i 4 = cv nd i 4 := by rw [← hs]; exact run_lo (by omega) (by omega) hi (by omega) k
  have hz15 : itN (refill1 k) nd.length (askS l k s) i 15 = refV p k (s i 15) := by
    have gen : ∀ m, i < m → itN (refill1 k) m (askS l k s) i 15 = refV p k (s i 15) := by
      intro m
      induction m with
      | zero => intro h; omega
      | succ m ih =>
        intro h
        rw [itN_succ]
        by_cases e : i = m
        · subst e
          have e2 : ∀ j, itN (refill1 k) i (askS l k s) i j = askS l k s i j := fun j =>
            itN_keep (P := fun z : PS => z i j = askS l k s i j) rfl i (fun a z ha hz => by
              unfold refill1
              split
              · rw [up_ne _ _ (.inl (by omega))]; exact hz
              · exact hz)
          have e3 : itN (refill1 k) i (askS l k s) i 3 = cv nd i 3 := by rw [e2, askS_ne _ (by decide), h3]
          have e4 : itN (refill1 k) i (askS l k s) i 4 = cv nd i 4 := by rw [e2, askS_ne _ (by decide), h4]
          have e5 : itN (refill1 k) i (askS l k s) i 15 = s i 15 := by rw [e2, askS_ne _ (by decide)]
          generalize itN (refill1 k) i (askS l k s) = y at e2 e3 e4 e5 ⊢
          unfold refV
          rw [hp]
          show refill1 k i y i 15 = if 0 < (k : Int) ∧ (k : Int) % cv nd i 4 = 0 then min (s i 15 + 1) (cv nd i 3) else s i 15
          unfold refill1
          rw [e3, e4, e5]
          split
          · rw [up_same]
          · exact e5
        · have := ih (by omega)
          unfold refill1
          split
          · rw [up_ne _ _ (.inl e)]; exact this
          · exact this
    exact gen _ hi
  refine ⟨itN (refill1 k) nd.length (askS l k s), by rw [hs]; exact hz15, by rw [hs, refill_ne _ (by decide), askS_ne _ (by decide)], by rw [hs, refill_ne _ (by decide), askS_ne _ (by decide)], ?_, ?_, ?_, ?_, ?_⟩
  · show sendS hold gr.toNat nd.length _ _ i 15 = _
    rw [sendS_lo (.inr (by omega)) (by omega), ← hs]; rfl
  · show sendS hold gr.toNat nd.length _ _ i 14 = _
    rw [send_ne14 (by omega), ← hs]; rfl
  · rw [run_st (by omega) hi, passN_ne (.inr (.inr rfl))]
  · rw [run_st (by omega) hi]; exact passN_tm (k := 8) i (by decide)
  · rw [run_st (by omega) hi, passN_aw]
/-- no group's timer runs -/
theorem groups_zero (hE : playE gr hold nd t l = 0) (hn : NoAsk l) {i : Nat} (hi : i < nd.length) {j : Nat} (hj : j < 8) : ∀ k, k ≤ t.toNat → (runFrom hold gr.toNat nd.length l (startS nd) k).s i (6 + j) = 0
  | 0, _ => by
    show startS nd i (6 + j) = 0
    unfold startS
    rw [if_neg (by omega), if_neg (by omega)]
  | k + 1, hk => by
    have hok := playE_ok hE
    have hn16 := hok.c.n16
    have ih := groups_zero hE hn hi hj k (by omega)
    rw [run_st (by omega) hi, passN_tm i (by omega), quiet8 hE (by omega) hi (noask_and hE hn (by omega) hi) hj, ih]; rfl
theorem aw_noise (hE : playE gr hold nd t l = 0) (hn : NoAsk l) {i : Nat} (hi : i < nd.length) {k : Nat} (hk : k < t.toNat) : awB (sndT hold gr.toNat nd.length l (startS nd) k) i = decide (0 < sndT hold gr.toNat nd.length l (startS nd) k i 14) := by
  by_cases h : 0 < sndT hold gr.toNat nd.length l (startS nd) k i 14
  · rw [awB_iff.2 ⟨8, by decide, h⟩, decide_eq_true h]
  · rw [decide_eq_false h]
    cases e : awB (sndT hold gr.toNat nd.length l (startS nd) k) i with
    | false => rfl
    | true =>
      obtain ⟨j, hj, hp⟩ := awB_iff.1 e
      by_cases e8 : j = 8
      · subst e8; exact absurd hp h
      · rw [quiet8 hE hk hi (noask_and hE hn hk hi) (by omega), groups_zero hE hn hi (by omega) k (by omega)] at hp
        omega
end
/-- the nudges that are noise for a node -/
def ownL (D : List Int) (i : Nat) : List (List Int) := D.map (fun d => [d, 3, (i : Int), 0])
theorem ownL_no (D : List Int) (i : Nat) : NoAsk (ownL D i) := fun x hx => by
  obtain ⟨d, _, rfl⟩ := List.mem_map.1 hx
  show (3 : Int) ≠ 1
  decide
theorem ownL_pick {D : List Int} {i : Nat} {k : Int} {x : List Int} : x ∈ picks (ownL D i) k [3] ↔ (k ∈ D ∧ x = [k, 3, (i : Int), 0]) := by
  unfold picks
  rw [List.mem_filter]
  constructor
  · rintro ⟨h1, h2⟩
    obtain ⟨d, hd, rfl⟩ := List.mem_map.1 h1
    unfold pickB at h2
    rw [Bool.and_eq_true] at h2
    have h3 : d = k := by simpa [nv] using h2.1
    subst h3
    exact ⟨hd, rfl⟩
  · rintro ⟨h1, rfl⟩
    refine ⟨List.mem_map.2 ⟨k, h1, rfl⟩, ?_⟩
    unfold pickB
    simp [nv]
theorem own_valid {gr hold t : Int} {nd : List (List Int)} {D : List Int} {i : Nat} (hT : ticksE gr hold nd t = 0) (hi : i < nd.length) (hD : ∀ d ∈ D, 0 ≤ d ∧ d < t) (hl : D.length ≤ 200) : playE gr hold nd t (ownL D i) = 0 := by
  have hlen : (ownL D i).length = D.length := by unfold ownL; rw [List.length_map]
  have hall : allN (fun j => rightB gr nd t ((ownL D i)[j]?.getD [])) (ownL D i).length = true := allN_iff.2 fun j hj => by
    rw [List.getElem?_eq_getElem hj]
    show rightB gr nd _ (ownL D i)[j] = true
    obtain ⟨d, hd, e⟩ := List.mem_map.1 (List.getElem_mem hj)
    rw [← e]
    have := hD d hd
    unfold rightB kindB
    show (withinB d 0 (t - 1) && (withinB (i : Int) 0 _ && (if (3 : Int) = 1 ∨ (3 : Int) = 2 then _ else if (3 : Int) = 3 then (0 : Int) == 0 else _))) = true
    rw [if_neg (by decide), if_pos rfl, withinB_of (by omega) (by omega), withinB_of (by omega) (by omega)]
    rfl
  unfold playE nudgeB
  rw [if_neg (by rw [hT]; simp), hall, hlen]
  simp [hl]
section
variable {gr hold t : Int} {nd : List (List Int)} {D : List Int}
/-- the play with the noise of Noises, from a tick on -/
theorem own_sim {i : Nat} (hE : playE gr hold nd t (ownL D i) = 0) (hi : i < nd.length) (p : Nd) (hp : p = ndV nd hold i t) : ∀ (m k r : Nat), k + m = t.toNat →
    (runFrom hold gr.toNat nd.length (ownL D i) (startS nd) k).s i 14 = (if 2 ≤ r then (r : Int) - 1 else 0) → (r = 0 → (runFrom hold gr.toNat nd.length (ownL D i) (startS nd) k).s i 16 = 0) →
    (∀ d : Int, (k : Int) ≤ d → (d ∈ D ↔ d ∈ noN p m k ((runFrom hold gr.toNat nd.length (ownL D i) (startS nd) k).s i 15) r)) →
    enS nd ((playRows gr hold nd t (ownL D i)).take t.toNat) i = enS nd ((playRows gr hold nd t (ownL D i)).take k) i + enN p m k ((runFrom hold gr.toNat nd.length (ownL D i) (startS nd) k).s i 15) r ∧
    ∀ d : Nat, k ≤ d → (d : Int) ∈ D → bitB ((playRows gr hold nd t (ownL D i))[d]?.getD 0) i = true ∧ (0 < d → bitB ((playRows gr hold nd t (ownL D i))[d - 1]?.getD 0) i = false)
  | 0, k, r, hk, _, _, hD => ⟨by rw [show t.toNat = k by omega]; show _ = _ + (0 : Int); omega, fun d hd hm => by
      have := (hD d (by omega)).1 hm
      simp [noN] at this⟩
  | m + 1, k, r, hk, h14, h16, hD => by
    have hok := playE_ok hE
    have hc := hok.c
    have hh := hc.h1
    have hno := ownL_no D i
    have hkt : k < t.toNat := by omega
    have hlen := playRows_len hE
    obtain ⟨z, z15, z14, z16, s15, s14, n15, n14, n16⟩ := tick_eqs hE hi p hp hkt
    have haw := aw_noise hE hno hi hkt
    have hbit := play_bit hE hkt hi
    have ih := own_sim hE hi p hp m (k + 1)
    have hpa : p.aw = cv nd i 1 := by rw [hp]; rfl
    have hpz : p.za = cv nd i 2 := by rw [hp]; rfl
    have hph : p.hold = hold := by rw [hp]; rfl
    have hprev : ∀ d : Nat, r = 0 → d = k → 0 < d → bitB ((playRows gr hold nd t (ownL D i))[d - 1]?.getD 0) i = false := fun d hr hd h0 => by
      have h5 := h16 hr
      obtain ⟨_, _, _, _, _, _, _, _, q16⟩ := tick_eqs hE hi p hp (k := k - 1) (by omega)
      rw [show k - 1 + 1 = k by omega, h5] at q16
      rw [hd, play_bit hE (by omega) hi]
      cases e : awB (sndT hold gr.toNat nd.length (ownL D i) (startS nd) (k - 1)) i with
      | false => rfl
      | true => rw [e] at q16; simp at q16
    rw [enS_take (by omega) i] at ih
    generalize hx : (runFrom hold gr.toNat nd.length (ownL D i) (startS nd) k).s i 15 = x at *
    by_cases hw : r = 0 ∧ wkB p k x = true
    · -- noise wakes it
      obtain ⟨hr, hwk⟩ := hw
      subst hr
      have hmem : (k : Int) ∈ D := (hD k (by omega)).2 (by rw [noN, if_pos ⟨rfl, hwk⟩]; simp)
      have hw2 := hwk
      unfold wkB at hw2
      simp only [Bool.and_eq_true, Bool.not_eq_true', decide_eq_false_iff_not] at hw2
      have hrp : 0 < refV p k x := by
        have hb := hc.bud i hi
        have h9 : 0 ≤ x := by
          have hS := (SOk.run (SOk.start hc) hh hc.h100 (l := ownL D i) (gr := gr.toNat) (fun y hy => by obtain ⟨d, _, rfl⟩ := List.mem_map.1 hy; show ((i : Int)).toNat < _; omega) k).t i hi 15 (by decide) (by decide)
          rw [hx] at hS; exact hS.1
        have h10 : 0 ≤ refV p k x := by
          unfold refV
          rw [hp]
          show 0 ≤ if 0 < (k : Int) ∧ (k : Int) % cv nd i 4 = 0 then min (x + 1) (cv nd i 3) else x
          split <;> omega
        omega
      obtain ⟨hh1, hh2⟩ := noise_hit hh (z := z) (i := i) (by rw [z16]; exact h16 rfl) (by rw [z15]; exact hrp) (by rw [z14, h14]; rfl) (picks (ownL D i) k [3]) ⟨_, ownL_pick.2 ⟨hmem, rfl⟩, by show ((i : Int)).toNat = i; omega⟩ (fun y hy => by rw [(ownL_pick.1 hy).2]; show ((i : Int)).toNat = i; omega)
      rw [← s15, z15] at hh1
      rw [← s14] at hh2
      rw [hh2, decide_eq_true (by omega)] at haw
      have e14 : (runFrom hold gr.toNat nd.length (ownL D i) (startS nd) (k + 1)).s i 14 = if 2 ≤ p.hold.toNat then ((p.hold.toNat : Nat) : Int) - 1 else 0 := by
        rw [n14, hh2, if_pos (by omega), hph]
        split <;> omega
      have e15 : (runFrom hold gr.toNat nd.length (ownL D i) (startS nd) (k + 1)).s i 15 = refV p k x - 1 := by rw [n15, hh1]
      have ec : ((k + 1 : Nat) : Int) = (k : Int) + 1 := by omega
      obtain ⟨a1, a2⟩ := ih p.hold.toNat (by omega) e14 (fun h => by omega) (fun d hd => by
        rw [hD d (by omega), e15, noN, if_pos ⟨rfl, hwk⟩, ec, List.mem_cons]
        constructor
        · rintro (h | h)
          · omega
          · exact h
        · exact .inr)
      refine ⟨?_, fun d hd hm => ?_⟩
      · rw [a1, e15, ec, enN, if_pos rfl, if_pos hwk]
        unfold en1
        rw [hbit, haw, if_pos rfl]; omega
      · by_cases e : d = k
        · subst e
          exact ⟨by rw [hbit, haw], hprev d rfl rfl⟩
        · exact a2 d (by omega) hm
    · -- no noise
      have hmem : ¬ (k : Int) ∈ D := fun h => by
        have h1 := (hD k (by omega)).1 h
        rw [noN, if_neg hw] at h1
        have := noN_ge m _ _ _ _ h1
        omega
      have hmiss := noise_miss (hold := hold) (z := z) (i := i) (picks (ownL D i) k [3]) (fun y hy => absurd (ownL_pick.1 hy).1 hmem)
      rw [hmiss 15, z15] at s15
      rw [hmiss 14, z14, h14] at s14
      have e15 : (runFrom hold gr.toNat nd.length (ownL D i) (startS nd) (k + 1)).s i 15 = refV p k x := by rw [n15, s15]
      have ec : ((k + 1 : Nat) : Int) = (k : Int) + 1 := by omega
      have e14 : (runFrom hold gr.toNat nd.length (ownL D i) (startS nd) (k + 1)).s i 14 = if 2 ≤ r - 1 then ((r - 1 : Nat) : Int) - 1 else 0 := by
        rw [n14, s14]
        by_cases h2 : 2 ≤ r
        · rw [if_pos h2, if_pos (by omega)]
          split <;> omega
        · rw [if_neg h2, if_neg (by omega), if_neg (by omega)]
      have e16 : r - 1 = 0 → (runFrom hold gr.toNat nd.length (ownL D i) (startS nd) (k + 1)).s i 16 = 0 := fun h => by
        rw [n16, haw, s14, if_neg (show ¬ 2 ≤ r by omega)]; simp
      obtain ⟨a1, a2⟩ := ih (r - 1) (by omega) e14 e16 (fun d hd => by rw [hD d (by omega), e15, noN, if_neg hw, ec])
      refine ⟨?_, fun d hd hm => ?_⟩
      · rw [a1, e15, ec, enN]
        unfold en1
        rw [hbit, haw, s14]
        by_cases h0 : r = 0
        · subst h0
          have hwk : ¬ wkB p k x = true := fun h => hw ⟨rfl, h⟩
          rw [if_pos rfl, if_neg hwk]
          simp; omega
        · by_cases h1 : r = 1
          · subst h1
            simp; omega
          · have h2 : (0 : Int) < (r : Int) - 1 := by omega
            rw [if_neg h0, if_neg h1, if_pos (show 2 ≤ r by omega), decide_eq_true h2, if_pos rfl]; omega
      · exact a2 d (by
          by_cases e : d = k
          · subst e; exact absurd hm hmem
          · omega) hm
/-- the noise of Noises -/
theorem own_ok (hT : ticksE gr hold nd t = 0) (ht : t ≤ 100) {i : Nat} (hi : i < nd.length) : nodeE gr hold nd i t = 0 ∧ ((noiR gr hold nd i t).length : Int) ≤ t ∧ playE gr hold nd t (ownL (noiR gr hold nd i t) i) = 0 ∧
    (playEn gr hold nd t (ownL (noiR gr hold nd i t) i))[i]?.getD 0 = worstV gr hold nd i t ∧
    ∀ j, j < (noiR gr hold nd i t).length → 0 ≤ (noiR gr hold nd i t)[j]?.getD 0 ∧ (noiR gr hold nd i t)[j]?.getD 0 < t ∧
      bitB ((playRows gr hold nd t (ownL (noiR gr hold nd i t) i))[((noiR gr hold nd i t)[j]?.getD 0).toNat]?.getD 0) i = true ∧
      (0 < (noiR gr hold nd i t)[j]?.getD 0 → bitB ((playRows gr hold nd t (ownL (noiR gr hold nd i t) i))[((noiR gr hold nd i t)[j]?.getD 0 - 1).toNat]?.getD 0) i = false) := by
  have hk := ticksE_ok hT
  have hb := hk.1.bud i hi
  have hN := nodeE_of (i := (i : Int)) hT (by omega) (by omega)
  obtain ⟨b1, b2⟩ := best_enN (ndOk_of hk.1 hi hk.2.1 (by omega)) t.toNat 0 (cv nd i 3) (by omega) (by show t - 0 = _; omega) hb.1 (Int.le_refl _)
  have hR : noiR gr hold nd i t = noN (ndV nd hold i t) t.toNat 0 (cv nd i 3) 0 := by unfold noiR; rw [if_pos hN, Int.toNat_natCast, b2]
  have hW : worstV gr hold nd i t = enN (ndV nd hold i t) t.toNat 0 (cv nd i 3) 0 := by unfold worstV; rw [if_pos hN, Int.toNat_natCast, b1]
  generalize noiR gr hold nd i t = D at *
  have hlen : D.length ≤ t.toNat := by rw [hR]; exact noN_len _ _ _ _
  have hD : ∀ d ∈ D, 0 ≤ d ∧ d < t := fun d hd => by
    rw [hR] at hd
    have := noN_ge _ _ _ _ _ hd
    omega
  have hE := own_valid (D := D) hT hi hD (by omega)
  obtain ⟨c1, c2⟩ := own_sim hE hi (ndV nd hold i t) rfl t.toNat 0 0 (by omega) rfl (fun _ => rfl) (fun d _ => by
    show d ∈ D ↔ d ∈ noN (ndV nd hold i t) t.toNat 0 (cv nd i 3) 0
    rw [hR])
  refine ⟨hN, by omega, hE, ?_, fun j hj => ?_⟩
  · rw [en_take hE hi, c1, hW]
    show (0 : Int) + enN (ndV nd hold i t) t.toNat 0 (cv nd i 3) 0 = _
    omega
  · have hd := hD _ (List.getElem_mem hj)
    rw [List.getElem?_eq_getElem hj]
    show 0 ≤ D[j] ∧ D[j] < t ∧ bitB ((playRows gr hold nd t (ownL D i))[(D[j]).toNat]?.getD 0) i = true ∧ (0 < D[j] → bitB ((playRows gr hold nd t (ownL D i))[(D[j] - 1).toNat]?.getD 0) i = false)
    obtain ⟨e1, e2⟩ := c2 (D[j]).toNat (by omega) (by rw [show (((D[j]).toNat : Nat) : Int) = D[j] by omega]; exact List.getElem_mem hj)
    exact ⟨hd.1, hd.2, e1, fun h => by
      have := e2 (by omega)
      rwa [show (D[j]).toNat - 1 = (D[j] - 1).toNat by omega] at this⟩
end
end
section
set_option linter.unusedVariables false
open Go.RowKit
section
variable {W W' : World} {tb T N z hi B : Nat} {p : Nd}
end
end
section
set_option linter.unusedVariables false
open Go.RowKit
end
section
open Go.RowKit

set_option maxRecDepth 100000 in
set_option maxHeartbeats 400000 in
theorem beg1_any (bc bt : Nat) (na : Option Addr) (n nc : Nat) (gr hold t : Int) (nd : List (List Int)) (x : List Int) (w : World) (hcb : RCells w [(⟨bc, 0, none⟩, .int .i64 gr), (⟨bc, 1, none⟩, .int .i64 hold), (⟨bc, 2, none⟩, .slice na n nc), (⟨bt, 0, none⟩, .int .i64 t)]) (hnd : StAt w 5 na n nd) (hc : CluOk gr hold nd) (ht : 0 ≤ t ∧ t ≤ 1000) :
  Calls Try.prog 68 #[.agg #[.int .i64 (nv x 0), .int .i64 (nv x 1), .int .i64 (nv x 2), .int .i64 (nv x 3)], .pointer (some ⟨bc, 0, none⟩), .pointer (some ⟨bt, 0, none⟩)] w fun e w' => e = .returned (.bool (!rightB gr nd t x)) ∧ Gr w w' := by
 have G := Gr.refl w
 have hC := hcb
 have hlen := hnd.len
 refine Y.calls 10 Try.func68 rfl rfl ?_
 intro ac F0
 have F : Fr ac 10 [(0, .agg #[.int .i64 (nv x 0), .int .i64 (nv x 1), .int .i64 (nv x 2), .int .i64 (nv x 3)]), (1, .pointer (some ⟨bc, 0, none⟩)), (2, .pointer (some ⟨bt, 0, none⟩))] := F0.sub _
 clear F0
 refine Y.seq ?_
 refine Y.lit (by kernel_rfl) ?_
 refine Y.pval F (X.w0 rfl) rfl (X.box rfl (F.ev 0 (.agg #[.int .i64 (nv x 0), .int .i64 (nv x 1), .int .i64 (nv x 2), .int .i64 (nv x 3)])) X.bx) ?_
 clear F ac
 intro ac F
 have g := Gr.alloc w (.cells #[.int .i64 (nv x 0), .int .i64 (nv x 1), .int .i64 (nv x 2), .int .i64 (nv x 3)] 33)
 have hb := heap_alloc_new w (.cells #[.int .i64 (nv x 0), .int .i64 (nv x 1), .int .i64 (nv x 2), .int .i64 (nv x 3)] 33)
 have hbl : w.heap.size < (w.alloc (.cells #[.int .i64 (nv x 0), .int .i64 (nv x 1), .int .i64 (nv x 2), .int .i64 (nv x 3)] 33)).heap.size := by simp
 have hC2 : RCells (w.alloc (.cells #[.int .i64 (nv x 0), .int .i64 (nv x 1), .int .i64 (nv x 2), .int .i64 (nv x 3)] 33)) [(⟨bc, 0, none⟩, .int .i64 gr), (⟨bc, 1, none⟩, .int .i64 hold), (⟨bc, 2, none⟩, .slice na n nc), (⟨bt, 0, none⟩, .int .i64 t), (⟨w.heap.size, 0, none⟩, .int .i64 (nv x 0)), (⟨w.heap.size, 1, none⟩, .int .i64 (nv x 1)), (⟨w.heap.size, 2, none⟩, .int .i64 (nv x 2)), (⟨w.heap.size, 3, none⟩, .int .i64 (nv x 3))] := hC.box (b := w.heap.size) #[.int .i64 (nv x 0), .int .i64 (nv x 1), .int .i64 (nv x 2), .int .i64 (nv x 3)] 33 rfl
 generalize w.alloc (.cells #[.int .i64 (nv x 0), .int .i64 (nv x 1), .int .i64 (nv x 2), .int .i64 (nv x 3)] 33) = w3 at *
 replace G := G.trans g
 replace hC := hC2
 clear hC2
 replace hnd := hnd.gr g
 clear g hb hbl
 refine Y.pval F (X.w0 rfl) rfl (X.assign rfl (X.kc (.bool false) rfl)) ?_
 clear F ac
 intro ac F
 refine Y.nil ?_
 replace F : Fr ac 10 [(0, .agg #[.int .i64 (nv x 0), .int .i64 (nv x 1), .int .i64 (nv x 2), .int .i64 (nv x 3)]), (1, .pointer (some ⟨bc, 0, none⟩)), (2, .pointer (some ⟨bt, 0, none⟩)), (3, .pointer (some ⟨w.heap.size, 0, none⟩)), (4, .bool false)] := F.sub _
 refine X.thenN ?_
 refine Y.seq ?_
 refine Y.lit (by kernel_rfl) ?_
 refine Y.pval F (X.w0 rfl) rfl (X.load rfl (F.ev 1 (.pointer (some ⟨bc, 0, none⟩))) (X.ldN (Try.agg24 _) (Try.siz24 _) (Y.atz (⟨bc, 0, none⟩) (Y.AtFrom.cons (hC.at 0 rfl) (Y.AtFrom.cons (hC.at 1 rfl) (Y.AtFrom.cons (hC.at 2 rfl) (Y.AtFrom.nil _ _ _))))))) ?_
 clear F ac
 intro ac F
 refine Y.pval F (X.w0 rfl) rfl (X.load rfl (F.ev 2 (.pointer (some ⟨bt, 0, none⟩))) (X.ld1 (Try.agg3 _) (hC.at 3 rfl))) ?_
 clear F ac
 intro ac F
 refine Y.pval F (X.w0 rfl) rfl (X.load rfl (F.ev 3 (.pointer (some ⟨w.heap.size, 0, none⟩))) (X.ldN (Try.agg33 _) (Try.siz33 _) (Y.atz (⟨w.heap.size, 0, none⟩) (Y.AtFrom.cons (hC.at 4 rfl) (Y.AtFrom.cons (hC.at 5 rfl) (Y.AtFrom.cons (hC.at 6 rfl) (Y.AtFrom.cons (hC.at 7 rfl) (Y.AtFrom.nil _ _ _)))))))) ?_
 clear F ac
 intro ac F
 refine Y.pcall F (X.w0 rfl) rfl (X.enter (F := 69) rfl (X.kc (.func (.func 69) #[] #[]) rfl) (X.a3 (F.ev 5 (.agg #[.int .i64 gr, .int .i64 hold, .slice na n nc])) (F.ev 6 (.int .i64 t)) (F.ev 7 (.agg #[.int .i64 (nv x 0), .int .i64 (nv x 1), .int .i64 (nv x 2), .int .i64 (nv x 3)]))) (enters_of Try.func69 (by kernel_rfl) rfl _)) (right_any na n nc gr hold t nd x w3 hnd hc ht) ?_
 clear F ac
 rintro e w4 ⟨rfl, g⟩
 refine ⟨_, rfl, ?_⟩
 intro ac F
 replace G := G.trans g
 replace hC := hC.gr g
 replace hnd := hnd.gr g
 clear g
 refine Y.pval F (X.w0 rfl) rfl (X.notB rfl (F.ev 8 (.bool (rightB gr nd t x))) rfl) ?_
 clear F ac
 intro ac F
 refine Y.pval F (X.w0 rfl) rfl (X.assign rfl (F.ev 9 (.bool (!(rightB gr nd t x))))) ?_
 clear F ac
 intro ac F
 refine Y.nil ?_
 replace F : Fr ac 10 [(0, .agg #[.int .i64 (nv x 0), .int .i64 (nv x 1), .int .i64 (nv x 2), .int .i64 (nv x 3)]), (1, .pointer (some ⟨bc, 0, none⟩)), (2, .pointer (some ⟨bt, 0, none⟩)), (3, .pointer (some ⟨w.heap.size, 0, none⟩)), (4, .bool (!(rightB gr nd t x)))] := F.sub _
 refine X.thenN ?_
 refine Y.ret ?_
 exact Y.ret0 (v := .bool (!(rightB gr nd t x))) F (Y.rs1 F rfl (by kernel_rfl)) ⟨rfl, G⟩
set_option maxRecDepth 100000 in
set_option maxHeartbeats 400000 in
theorem indexF_any (bc bt : Nat) (na la : Option Addr) (n nc m lc : Nat) (gr hold t : Int) (nd l : List (List Int)) (w : World) (hcb : RCells w [(⟨bc, 0, none⟩, .int .i64 gr), (⟨bc, 1, none⟩, .int .i64 hold), (⟨bc, 2, none⟩, .slice na n nc), (⟨bt, 0, none⟩, .int .i64 t)]) (hnd : StAt w 5 na n nd) (hc : CluOk gr hold nd) (ht : 0 ≤ t ∧ t ≤ 1000) (hl : StAt w 4 la m l) :
  Calls Try.prog 83 #[.slice la m lc, .func (.func 68) #[] #[.pointer (some ⟨bc, 0, none⟩), .pointer (some ⟨bt, 0, none⟩)]] w fun e w' => ∃ z, e = .returned (.int .i64 z) ∧ decide (0 ≤ z) = !(allN (fun i => rightB gr nd t (l[i]?.getD [])) m) ∧ Gr w w' := by
 have G := Gr.refl w
 have hC := hcb
 have hlen := hnd.len
 have hlm := hl.lt
 have hll := hl.len
 refine Y.calls 19 Try.func83 rfl rfl ?_
 intro ac F0
 have F : Fr ac 19 [(0, .slice la m lc), (1, .func (.func 68) #[] #[.pointer (some ⟨bc, 0, none⟩), .pointer (some ⟨bt, 0, none⟩)])] := F0.sub _
 clear F0
 refine Y.seq ?_
 refine Y.lit (by kernel_rfl) ?_
 refine Y.pval F (X.w0 rfl) rfl (X.assign rfl (X.kc (.int .i64 0) rfl)) ?_
 clear F ac
 intro ac F
 refine Y.nil ?_
 replace F : Fr ac 19 [(0, .slice la m lc), (1, .func (.func 68) #[] #[.pointer (some ⟨bc, 0, none⟩), .pointer (some ⟨bt, 0, none⟩)]), (4, .int .i64 0)] := F.sub _
 refine X.thenN ?_
 refine Y.seq ?_
 refine Y.seq ?_
 refine Y.lit (by kernel_rfl) ?_
 refine Y.pval F (X.w0 rfl) rfl (X.move rfl (F.ev 0 (.slice la m lc))) ?_
 clear F ac
 intro ac F
 refine Y.pval F (X.w0 rfl) rfl (X.len1 Try.underlying25 rfl (F.ev 6 (.slice la m lc))) ?_
 clear F ac
 intro ac F
 refine Y.pval F (X.w0 rfl) rfl (X.move rfl (X.kc (.int .i64 0) rfl)) ?_
 clear F ac
 intro ac F
 refine Y.nil ?_
 replace F : Fr ac 19 [(0, .slice la m lc), (1, .func (.func 68) #[] #[.pointer (some ⟨bc, 0, none⟩), .pointer (some ⟨bt, 0, none⟩)]), (4, .int .i64 0), (7, .int .i64 m), (8, .int .i64 0)] := F.sub _
 refine X.thenN ?_
 refine Y.block ?_
 have hndB := hnd
 have hlB := hl
 have hCB := hC
 have GB := G
 refine Y.loop (fun me_ ac wr => ∃ (i : Nat), me_ = m - i ∧ Gr w wr ∧ i ≤ m ∧ allN (fun i => rightB gr nd t (l[i]?.getD [])) i = true ∧ Fr ac 19 [(0, .slice la m lc), (1, .func (.func 68) #[] #[.pointer (some ⟨bc, 0, none⟩), .pointer (some ⟨bt, 0, none⟩)]), (7, .int .i64 m), (8, .int .i64 i)]) _ ⟨0, rfl, Gr.refl _, Nat.zero_le _, rfl, F.sub _⟩ ?_
 clear F
 intro me_ ac w3 hI
 obtain ⟨i, rfl, gr, hi0, hall, F⟩ := hI
 replace G := GB.trans gr
 replace hC := hCB.gr gr
 replace hnd := hndB.gr gr
 replace hl := hlB.gr gr
 have GB_ := gr
 clear gr
 refine Y.seq ?_
 refine Y.lit (by kernel_rfl) ?_
 refine Y.pval F (X.w0 rfl) rfl (X.binop rfl (F.ev 8 (.int .i64 i)) (F.ev 7 (.int .i64 m)) (X.lssI Try.underlying3 rfl)) ?_
 clear F ac
 intro ac F
 refine Y.nil ?_
 replace F : Fr ac 19 [(0, .slice la m lc), (1, .func (.func 68) #[] #[.pointer (some ⟨bc, 0, none⟩), .pointer (some ⟨bt, 0, none⟩)]), (7, .int .i64 m), (8, .int .i64 i), (9, .bool (decide ((i : Int) < m)))] := F.sub _
 refine X.thenN ?_
 refine Y.seq ?_
 cases h4 : decide ((i : Int) < m) with
 | false =>
  try rw [h4] at F
  have h4p : ¬ ((i : Int) < m) := of_decide_eq_false h4
  have him : i = m := by omega
  rw [him] at hall
  refine Y.condF (F.ev 9 (.bool false)) ?_
  refine Y.exit ?_
  refine X.thenX ?_
  refine X.thenX ?_
  refine X.blockX ?_
  refine X.thenN ?_
  refine Y.seq ?_
  refine Y.lit (by kernel_rfl) ?_
  refine Y.pval F (X.w0 rfl) rfl (X.assign rfl (X.kc (.int .i64 (-1)) rfl)) ?_
  clear F ac
  intro ac F
  refine Y.nil ?_
  replace F : Fr ac 19 [(0, .slice la m lc), (1, .func (.func 68) #[] #[.pointer (some ⟨bc, 0, none⟩), .pointer (some ⟨bt, 0, none⟩)]), (4, .int .i64 (-1)), (7, .int .i64 m), (8, .int .i64 i), (9, .bool false)] := F.sub _
  refine X.thenN ?_
  refine Y.ret ?_
  exact Y.ret0 (v := .int .i64 (-1)) F (Y.rs1 F rfl (by kernel_rfl)) ⟨_, rfl, by rw [hall]; decide, G⟩
 | true =>
  try rw [h4] at F
  have h4p : ((i : Int) < m) := of_decide_eq_true h4
  refine Y.condT (F.ev 9 (.bool true)) ?_
  refine Y.skip ?_
  refine X.thenN ?_
  refine Y.seq ?_
  refine Y.block ?_
  refine Y.seq ?_
  refine Y.lit (by kernel_rfl) ?_
  refine Y.pval F (X.w0 rfl) rfl (X.move rfl (F.ev 8 (.int .i64 i))) ?_
  clear F ac
  intro ac F
  refine Y.pval F (X.w0 rfl) rfl (X.assign rfl (F.ev 10 (.int .i64 i))) ?_
  clear F ac
  intro ac F
  refine Y.nil ?_
  replace F : Fr ac 19 [(0, .slice la m lc), (1, .func (.func 68) #[] #[.pointer (some ⟨bc, 0, none⟩), .pointer (some ⟨bt, 0, none⟩)]), (5, .int .i64 i), (7, .int .i64 m), (8, .int .i64 i), (9, .bool true)] := F.sub _
  refine X.thenN ?_
  refine Y.seq ?_
  refine Y.lit (by kernel_rfl) ?_
  refine Y.pval F (X.w0 rfl) rfl (X.move rfl (F.ev 1 (.func (.func 68) #[] #[.pointer (some ⟨bc, 0, none⟩), .pointer (some ⟨bt, 0, none⟩)]))) ?_
  clear F ac
  intro ac F
  refine Y.pval F (X.w0 rfl) rfl (X.move rfl (F.ev 0 (.slice la m lc))) ?_
  clear F ac
  intro ac F
  refine Y.pval F (X.w0 rfl) rfl (X.move rfl (F.ev 5 (.int .i64 i))) ?_
  clear F ac
  intro ac F
  obtain ⟨pd5, pe5, -, -, pc5⟩ := hl.at (j := i) (by omega)
  subst pe5
  replace hC : RCells w3 [(⟨bc, 0, none⟩, .int .i64 gr), (⟨bc, 1, none⟩, .int .i64 hold), (⟨bc, 2, none⟩, .slice na n nc), (⟨bt, 0, none⟩, .int .i64 t), (pd5.add (i * 4), .int .i64 (cv l i 0)), (⟨(pd5.add (i * 4)).block, (pd5.add (i * 4)).off + 1, none⟩, .int .i64 (cv l i 1)), (⟨(pd5.add (i * 4)).block, (pd5.add (i * 4)).off + 2, none⟩, .int .i64 (cv l i 2)), (⟨(pd5.add (i * 4)).block, (pd5.add (i * 4)).off + 3, none⟩, .int .i64 (cv l i 3))] := hC.append ((RCells.cons (pc5 0 (by decide)) (RCells.cons (pc5 1 (by decide)) (RCells.cons (pc5 2 (by decide)) (RCells.cons (pc5 3 (by decide)) (RCells.nil _))))))
  clear pc5
  refine Y.pval F (X.w0 rfl) rfl (X.index rfl (F.ev 12 (.slice (some pd5) m lc)) (F.ev 13 (.int .i64 i)) (X.idx (k := i) Try.underlying25 (Try.siz33 _) (by omega) (by omega) rfl)) ?_
  clear F ac
  intro ac F
  refine Y.pval F (X.w0 rfl) rfl (X.load rfl (F.ev 14 (.pointer (some (pd5.add (i * 4))))) (X.ldN (Try.agg33 _) (Try.siz33 _) (Y.atz (pd5.add (i * 4)) (Y.AtFrom.cons (hC.at 4 rfl) (Y.AtFrom.cons (hC.at 5 rfl) (Y.AtFrom.cons (hC.at 6 rfl) (Y.AtFrom.cons (hC.at 7 rfl) (Y.AtFrom.nil _ _ _)))))))) ?_
  clear F ac
  intro ac F
  refine Y.pcall F (X.w0 rfl) rfl (X.enter (F := 68) rfl (F.ev 11 (.func (.func 68) #[] #[.pointer (some ⟨bc, 0, none⟩), .pointer (some ⟨bt, 0, none⟩)])) (X.a1 (F.ev 15 (.agg #[.int .i64 (cv l i 0), .int .i64 (cv l i 1), .int .i64 (cv l i 2), .int .i64 (cv l i 3)]))) (enters_of Try.func68 (by kernel_rfl) rfl _)) (beg1_any bc bt na n nc gr hold t nd (l[i]?.getD []) w3 ((RCells.cons (hC.at 0 rfl) (RCells.cons (hC.at 1 rfl) (RCells.cons (hC.at 2 rfl) (RCells.cons (hC.at 3 rfl) (RCells.nil _)))))) hnd hc ht) ?_
  clear F ac
  rintro e w6 ⟨rfl, g⟩
  refine ⟨_, rfl, ?_⟩
  intro ac F
  replace G := G.trans g
  replace hC := hC.gr g
  replace GB_ := GB_.trans g
  replace hnd := hnd.gr g
  replace hl := hl.gr g
  clear g
  refine Y.nil ?_
  replace F : Fr ac 19 [(0, .slice (some pd5) m lc), (1, .func (.func 68) #[] #[.pointer (some ⟨bc, 0, none⟩), .pointer (some ⟨bt, 0, none⟩)]), (5, .int .i64 i), (7, .int .i64 m), (8, .int .i64 i), (9, .bool true), (16, .bool (!(rightB gr nd t (l[i]?.getD []))))] := F.sub _
  refine X.thenN ?_
  cases h7 : rightB gr nd t (l[i]?.getD []) with
  | false =>
   try rw [h7] at F
   refine Y.condT (F.ev 16 (.bool true)) ?_
   refine Y.seq ?_
   refine Y.lit (by kernel_rfl) ?_
   refine Y.pval F (X.w0 rfl) rfl (X.move rfl (F.ev 5 (.int .i64 i))) ?_
   clear F ac
   intro ac F
   refine Y.pval F (X.w0 rfl) rfl (X.assign rfl (F.ev 17 (.int .i64 i))) ?_
   clear F ac
   intro ac F
   refine Y.nil ?_
   replace F : Fr ac 19 [(0, .slice (some pd5) m lc), (1, .func (.func 68) #[] #[.pointer (some ⟨bc, 0, none⟩), .pointer (some ⟨bt, 0, none⟩)]), (4, .int .i64 i), (5, .int .i64 i), (7, .int .i64 m), (8, .int .i64 i), (9, .bool true), (16, .bool true)] := F.sub _
   refine X.thenN ?_
   refine Y.ret ?_
   refine X.blockR ?_
   refine X.thenR ?_
   refine X.thenR ?_
   refine X.blockR ?_
   refine X.thenR ?_
   exact Y.ret0 (v := .int .i64 i) F (Y.rs1 F rfl (by kernel_rfl)) ⟨_, rfl, by rw [allN_bad (i := i) (by omega) (by simpa using h7)]; simp, G⟩
  | true =>
   try rw [h7] at F
   refine Y.condF (F.ev 16 (.bool false)) ?_
   refine Y.skip ?_
   refine X.blockN ?_
   refine X.thenN ?_
   refine Y.lit (by kernel_rfl) ?_
   refine Y.pval F (X.w0 rfl) rfl (X.binop rfl (F.ev 8 (.int .i64 i)) (X.kc (.int .i64 1) rfl) (X.addI Try.underlying3 rfl (by omega) (by omega))) ?_
   clear F ac
   intro ac F
   refine Y.pval F (X.w0 rfl) rfl (X.move rfl (F.ev 18 (.int .i64 ((i : Int) + 1)))) ?_
   clear F ac
   intro ac F
   refine Y.nil ?_
   replace F : Fr ac 19 [(0, .slice (some pd5) m lc), (1, .func (.func 68) #[] #[.pointer (some ⟨bc, 0, none⟩), .pointer (some ⟨bt, 0, none⟩)]), (5, .int .i64 i), (7, .int .i64 m), (8, .int .i64 ((i : Int) + 1)), (9, .bool true), (16, .bool false)] := F.sub _
   refine X.thenN ?_
   refine ⟨_, ?_, i + 1, rfl, GB_, by omega, by simp only [allN, hall, Bool.true_and]; simpa using h7, F.sub _⟩
   omega
set_option maxRecDepth 100000 in
set_option maxHeartbeats 400000 in
theorem contF_any (bc bt : Nat) (na la : Option Addr) (n nc m lc : Nat) (gr hold t : Int) (nd l : List (List Int)) (w : World) (hcb : RCells w [(⟨bc, 0, none⟩, .int .i64 gr), (⟨bc, 1, none⟩, .int .i64 hold), (⟨bc, 2, none⟩, .slice na n nc), (⟨bt, 0, none⟩, .int .i64 t)]) (hnd : StAt w 5 na n nd) (hc : CluOk gr hold nd) (ht : 0 ≤ t ∧ t ≤ 1000) (hl : StAt w 4 la m l) :
  Calls Try.prog 67 #[.slice la m lc, .func (.func 68) #[] #[.pointer (some ⟨bc, 0, none⟩), .pointer (some ⟨bt, 0, none⟩)]] w fun e w' => e = .returned (.bool (!(allN (fun i => rightB gr nd t (l[i]?.getD [])) m))) ∧ Gr w w' := by
 have G := Gr.refl w
 have hC := hcb
 have hlen := hnd.len
 have hlm := hl.lt
 have hll := hl.len
 refine Y.calls 9 Try.func67 rfl rfl ?_
 intro ac F0
 have F : Fr ac 9 [(0, .slice la m lc), (1, .func (.func 68) #[] #[.pointer (some ⟨bc, 0, none⟩), .pointer (some ⟨bt, 0, none⟩)])] := F0.sub _
 clear F0
 refine Y.seq ?_
 refine Y.lit (by kernel_rfl) ?_
 refine Y.pval F (X.w0 rfl) rfl (X.assign rfl (X.kc (.bool false) rfl)) ?_
 clear F ac
 intro ac F
 refine Y.nil ?_
 replace F : Fr ac 9 [(0, .slice la m lc), (1, .func (.func 68) #[] #[.pointer (some ⟨bc, 0, none⟩), .pointer (some ⟨bt, 0, none⟩)]), (4, .bool false)] := F.sub _
 refine X.thenN ?_
 refine Y.seq ?_
 refine Y.lit (by kernel_rfl) ?_
 refine Y.pval F (X.w0 rfl) rfl (X.move rfl (F.ev 0 (.slice la m lc))) ?_
 clear F ac
 intro ac F
 refine Y.pval F (X.w0 rfl) rfl (X.move rfl (F.ev 1 (.func (.func 68) #[] #[.pointer (some ⟨bc, 0, none⟩), .pointer (some ⟨bt, 0, none⟩)]))) ?_
 clear F ac
 intro ac F
 refine Y.pcall F (X.w0 rfl) rfl (X.enter (F := 83) rfl (X.kc (.func (.func 83) #[] #[]) rfl) (X.a2 (F.ev 5 (.slice la m lc)) (F.ev 6 (.func (.func 68) #[] #[.pointer (some ⟨bc, 0, none⟩), .pointer (some ⟨bt, 0, none⟩)]))) (enters_of Try.func83 (by kernel_rfl) rfl _)) (indexF_any bc bt na la n nc m lc gr hold t nd l w ((RCells.cons (hC.at 0 rfl) (RCells.cons (hC.at 1 rfl) (RCells.cons (hC.at 2 rfl) (RCells.cons (hC.at 3 rfl) (RCells.nil _)))))) hnd hc ht hl) ?_
 clear F ac
 rintro e w3 ⟨z, rfl, hz, g⟩
 refine ⟨_, rfl, ?_⟩
 intro ac F
 replace G := G.trans g
 replace hC := hC.gr g
 replace hnd := hnd.gr g
 replace hl := hl.gr g
 clear g
 refine Y.pval F (X.w0 rfl) rfl (X.binop rfl (F.ev 7 (.int .i64 z)) (X.kc (.int .i64 0) rfl) (X.geqI Try.underlying3 rfl)) ?_
 clear F ac
 intro ac F
 refine Y.pval F (X.w0 rfl) rfl (X.assign rfl (F.ev 8 (.bool (decide ((0 : Int) ≤ z))))) ?_
 clear F ac
 intro ac F
 refine Y.nil ?_
 replace F : Fr ac 9 [(0, .slice la m lc), (1, .func (.func 68) #[] #[.pointer (some ⟨bc, 0, none⟩), .pointer (some ⟨bt, 0, none⟩)]), (4, .bool (decide ((0 : Int) ≤ z)))] := F.sub _
 refine X.thenN ?_
 refine Y.ret ?_
 exact Y.ret0 (v := .bool (decide ((0 : Int) ≤ z))) F (Y.rs1 F rfl (by kernel_rfl)) ⟨by rw [← hz], G⟩
end
section
open Go.RowKit

theorem playE_bad1 {gr hold t : Int} {nd l : List (List Int)} {m : Nat} (hl : l.length = m) (hE : ticksE gr hold nd t = 0) (h : 200 < m) : playE gr hold nd t l = 91 := by
  unfold playE nudgeB
  rw [if_neg (by rw [hE]; simp), hl]
  simp [show ¬ m ≤ 200 by omega]
theorem playE_bad2 {gr hold t : Int} {nd l : List (List Int)} {m : Nat} (hl : l.length = m) (hE : ticksE gr hold nd t = 0) (h : allN (fun i => rightB gr nd t (l[i]?.getD [])) m = false) : playE gr hold nd t l = 91 := by
  unfold playE nudgeB
  rw [if_neg (by rw [hE]; simp), hl, h]
  simp
theorem playE_good {gr hold t : Int} {nd l : List (List Int)} {m n : Nat} (hn : nd.length = n) (hl : l.length = m) (hE : ticksE gr hold nd t = 0) (hm : m ≤ 200) (h : allN (fun i => rightB gr nd t (l[i]?.getD [])) m = true) : playE gr hold nd t l = 0 := by
  unfold playE nudgeB
  rw [if_neg (by rw [hE]; simp), hl, h]
  simp [hm]
theorem s9p {W : World} {bp : Nat} {gr hold : Int} {na la pa : Option Addr} {n nc m lc cap : Nat} (h : OwnP W bp 5 (PVal gr hold na n nc la m lc (.slice pa n cap))) : RCells W (PlC bp 0 gr hold na la pa n nc m lc cap) := by
  intro p hp
  simp only [PlC, List.mem_cons, List.not_mem_nil, or_false] at hp
  rcases hp with rfl | rfl | rfl | rfl | rfl
  · exact h.cell (k := 0) (by decide)
  · exact h.cell (k := 1) (by decide)
  · exact h.cell (k := 2) (by decide)
  · exact h.cell (k := 3) (by decide)
  · exact h.cell (k := 4) (by decide)

set_option maxRecDepth 100000 in
set_option maxHeartbeats 1000000 in
theorem begin_any (na la : Option Addr) (n nc m lc : Nat) (gr hold t : Int) (nd l : List (List Int)) (w : World) (hnd : StAt w 5 na n nd) (hl : StAt w 4 la m l) :
  Calls Try.prog 44 #[.agg #[.int .i64 gr, .int .i64 hold, .slice na n nc], .int .i64 t, .slice la m lc] w fun e w' => (playE gr hold nd t l ≠ 0 → e = .returned (.tuple #[.pointer none, .int .i64 (playE gr hold nd t l)])) ∧ Gr w w' ∧ (playE gr hold nd t l = 0 → ∃ bp, e = .returned (.tuple #[.pointer (some ⟨bp, 0, none⟩), .int .i64 0]) ∧ Begun w w' gr hold na la n nc m lc l nd bp) := by
 have G := Gr.refl w
 have hnd0 := hnd
 have hl0 := hl
 have hlm := hl.lt
 have hln := hnd.lt
 refine Y.calls 52 Try.func44 rfl rfl ?_
 intro ac F0
 have F : Fr ac 52 [(0, .agg #[.int .i64 gr, .int .i64 hold, .slice na n nc]), (1, .int .i64 t), (2, .slice la m lc)] := F0.sub _
 clear F0
 refine Y.seq ?_
 refine Y.lit (by kernel_rfl) ?_
 refine Y.pval F (X.w0 rfl) rfl (X.box rfl (F.ev 0 (.agg #[.int .i64 gr, .int .i64 hold, .slice na n nc])) X.bx) ?_
 clear F ac
 intro ac F
 have g := Gr.alloc w (.cells #[.int .i64 gr, .int .i64 hold, .slice na n nc] 24)
 have hb := heap_alloc_new w (.cells #[.int .i64 gr, .int .i64 hold, .slice na n nc] 24)
 have hbl : w.heap.size < (w.alloc (.cells #[.int .i64 gr, .int .i64 hold, .slice na n nc] 24)).heap.size := by simp
 have hC2 : RCells (w.alloc (.cells #[.int .i64 gr, .int .i64 hold, .slice na n nc] 24)) [(⟨w.heap.size, 0, none⟩, .int .i64 gr), (⟨w.heap.size, 1, none⟩, .int .i64 hold), (⟨w.heap.size, 2, none⟩, .slice na n nc)] := (RCells.nil w).box (b := w.heap.size) #[.int .i64 gr, .int .i64 hold, .slice na n nc] 24 rfl
 generalize w.alloc (.cells #[.int .i64 gr, .int .i64 hold, .slice na n nc] 24) = w3 at *
 replace G := G.trans g
 have hC := hC2
 clear hC2
 replace hnd := hnd.gr g
 replace hl := hl.gr g
 clear g hb hbl
 refine Y.pval F (X.w0 rfl) rfl (X.box rfl (F.ev 1 (.int .i64 t)) (Y.bx1 rfl)) ?_
 clear F ac
 intro ac F
 have hq0 : w.heap.size < w3.heap.size := lt_cell (hC.at 0 rfl)
 have g := Gr.alloc w3 (.cells #[.int .i64 t] 3)
 have hb := heap_alloc_new w3 (.cells #[.int .i64 t] 3)
 have hbl : w3.heap.size < (w3.alloc (.cells #[.int .i64 t] 3)).heap.size := by simp
 have hC2 : RCells (w3.alloc (.cells #[.int .i64 t] 3)) [(⟨w.heap.size, 0, none⟩, .int .i64 gr), (⟨w.heap.size, 1, none⟩, .int .i64 hold), (⟨w.heap.size, 2, none⟩, .slice na n nc), (⟨w3.heap.size, 0, none⟩, .int .i64 t)] := hC.box (b := w3.heap.size) #[.int .i64 t] 3 rfl
 generalize w3.alloc (.cells #[.int .i64 t] 3) = w4 at *
 replace G := G.trans g
 replace hC := hC2
 clear hC2
 replace hnd := hnd.gr g
 replace hl := hl.gr g
 have hT := ownP_zero (val := NV (startS nd)) hb
 clear g hb hbl
 refine Y.pval F (X.w0 rfl) rfl (X.assign rfl (X.kc (.pointer none) rfl)) ?_
 clear F ac
 intro ac F
 refine Y.pval F (X.w0 rfl) rfl (X.assign rfl (X.kc (.int .i64 0) rfl)) ?_
 clear F ac
 intro ac F
 refine Y.nil ?_
 replace F : Fr ac 52 [(0, .agg #[.int .i64 gr, .int .i64 hold, .slice na n nc]), (1, .int .i64 t), (2, .slice la m lc), (3, .pointer (some ⟨w.heap.size, 0, none⟩)), (4, .pointer (some ⟨w3.heap.size, 0, none⟩)), (6, .pointer none), (7, .int .i64 0)] := F.sub _
 refine X.thenN ?_
 refine Y.seq ?_
 refine Y.seq ?_
 refine Y.lit (by kernel_rfl) ?_
 refine Y.pval F (X.w0 rfl) rfl (X.load rfl (F.ev 3 (.pointer (some ⟨w.heap.size, 0, none⟩))) (X.ldN (Try.agg24 _) (Try.siz24 _) (Y.atz (⟨w.heap.size, 0, none⟩) (Y.AtFrom.cons (hC.at 0 rfl) (Y.AtFrom.cons (hC.at 1 rfl) (Y.AtFrom.cons (hC.at 2 rfl) (Y.AtFrom.nil _ _ _))))))) ?_
 clear F ac
 intro ac F
 refine Y.pval F (X.w0 rfl) rfl (X.load rfl (F.ev 4 (.pointer (some ⟨w3.heap.size, 0, none⟩))) (X.ld1 (Try.agg3 _) (hC.at 3 rfl))) ?_
 clear F ac
 intro ac F
 refine Y.pcall F (X.w0 rfl) rfl (X.enter (F := 50) rfl (X.kc (.func (.func 50) #[] #[]) rfl) (X.a2 (F.ev 12 (.agg #[.int .i64 gr, .int .i64 hold, .slice na n nc])) (F.ev 13 (.int .i64 t))) (enters_of Try.func50 (by kernel_rfl) rfl _)) (ticks_any na n nc gr hold t nd w4 hnd) ?_
 clear F ac
 rintro e w5 ⟨rfl, g⟩
 refine ⟨_, rfl, ?_⟩
 intro ac F
 replace G := G.trans g
 replace hC := hC.gr g
 replace hnd := hnd.gr g
 replace hl := hl.gr g
 replace hT := hT.gr g
 clear g
 refine Y.pval F (X.w0 rfl) rfl (X.assign rfl (F.ev 14 (.int .i64 (ticksE gr hold nd t)))) ?_
 clear F ac
 intro ac F
 refine Y.nil ?_
 replace F : Fr ac 52 [(0, .agg #[.int .i64 gr, .int .i64 hold, .slice na n nc]), (1, .int .i64 t), (2, .slice la m lc), (3, .pointer (some ⟨w.heap.size, 0, none⟩)), (4, .pointer (some ⟨w3.heap.size, 0, none⟩)), (6, .pointer none), (7, .int .i64 0), (8, .int .i64 (ticksE gr hold nd t))] := F.sub _
 refine X.thenN ?_
 refine Y.seq ?_
 refine Y.lit (by kernel_rfl) ?_
 refine Y.pval F (X.w0 rfl) rfl (X.move rfl (F.ev 8 (.int .i64 (ticksE gr hold nd t)))) ?_
 clear F ac
 intro ac F
 refine Y.pval F (X.w0 rfl) rfl (X.binop rfl (F.ev 15 (.int .i64 (ticksE gr hold nd t))) (X.kc (.int .i64 0) rfl) (X.neqI Try.underlying26 rfl)) ?_
 clear F ac
 intro ac F
 refine Y.nil ?_
 replace F : Fr ac 52 [(0, .agg #[.int .i64 gr, .int .i64 hold, .slice na n nc]), (1, .int .i64 t), (2, .slice la m lc), (3, .pointer (some ⟨w.heap.size, 0, none⟩)), (4, .pointer (some ⟨w3.heap.size, 0, none⟩)), (6, .pointer none), (7, .int .i64 0), (8, .int .i64 (ticksE gr hold nd t)), (16, .bool ((ticksE gr hold nd t : Int) != 0))] := F.sub _
 refine X.thenN ?_
 cases h6 : ((ticksE gr hold nd t : Int) != 0) with
 | false =>
  try rw [h6] at F
  have h6p : (ticksE gr hold nd t : Int) = 0 := by simpa using h6
  have hE : ticksE gr hold nd t = 0 := by simpa using h6p
  have hok := (ticksE_ok hE).1
  have ht := (ticksE_ok hE).2
  have h16 : n ≤ 16 := by have := hok.n16; rw [hnd.len] at this; exact this
  refine Y.condF (F.ev 16 (.bool false)) ?_
  refine Y.skip ?_
  refine X.thenN ?_
  refine Y.seq ?_
  refine Y.seq ?_
  refine Y.lit (by kernel_rfl) ?_
  refine Y.pval F (X.w0 rfl) rfl (X.move rfl (F.ev 2 (.slice la m lc))) ?_
  clear F ac
  intro ac F
  refine Y.pval F (X.w0 rfl) rfl (X.len1 Try.underlying25 rfl (F.ev 18 (.slice la m lc))) ?_
  clear F ac
  intro ac F
  refine Y.pval F (X.w0 rfl) rfl (X.binop rfl (F.ev 19 (.int .i64 m)) (X.kc (.int .i64 200) rfl) (X.gtrI Try.underlying3 rfl)) ?_
  clear F ac
  intro ac F
  refine Y.pval F (X.w0 rfl) rfl (X.move rfl (F.ev 20 (.bool (decide ((200 : Int) < m))))) ?_
  clear F ac
  intro ac F
  cases h7 : decide ((200 : Int) < m) with
  | false =>
   try rw [h7] at F
   have h7p : ¬ ((200 : Int) < m) := of_decide_eq_false h7
   refine Y.pval F (X.w1 rfl (F.yl (j := 3) (d := 21) (b := false) rfl (by kernel_rfl))) rfl (X.move rfl (F.ev 2 (.slice la m lc))) ?_
   clear F ac
   intro ac F
   refine Y.pval F (X.w1 rfl (F.yl (j := 3) (d := 21) (b := false) rfl (by kernel_rfl))) rfl (Y.fnc rfl (Y.m2 (F.ev 3 (.pointer (some ⟨w.heap.size, 0, none⟩))) (F.ev 4 (.pointer (some ⟨w3.heap.size, 0, none⟩))))) ?_
   clear F ac
   intro ac F
   refine Y.pcall F (X.w1 rfl (F.yl (j := 3) (d := 21) (b := false) rfl (by kernel_rfl))) rfl (X.enter (F := 67) rfl (X.kc (.func (.func 67) #[] #[]) rfl) (X.a2 (F.ev 22 (.slice la m lc)) (F.ev 23 (.func (.func 68) #[] #[.pointer (some ⟨w.heap.size, 0, none⟩), .pointer (some ⟨w3.heap.size, 0, none⟩)]))) (enters_of Try.func67 (by kernel_rfl) rfl _)) (contF_any (w.heap.size) (w3.heap.size) na la n nc m lc gr hold t nd l w5 ((RCells.cons (hC.at 0 rfl) (RCells.cons (hC.at 1 rfl) (RCells.cons (hC.at 2 rfl) (RCells.cons (hC.at 3 rfl) (RCells.nil _)))))) hnd hok ⟨ht.1, ht.2⟩ hl) ?_
   clear F ac
   rintro e w8 ⟨rfl, g⟩
   refine ⟨_, rfl, ?_⟩
   intro ac F
   replace G := G.trans g
   replace hC := hC.gr g
   replace hnd := hnd.gr g
   replace hl := hl.gr g
   replace hT := hT.gr g
   clear g
   refine Y.pval F (X.w0 rfl) rfl (X.pickF rfl (F.ev 21 (.bool false)) (F.ev 24 (.bool (!(allN (fun i => rightB gr nd t (l[i]?.getD [])) m))))) ?_
   clear F ac
   intro ac F
   refine Y.nil ?_
   replace F : Fr ac 52 [(0, .agg #[.int .i64 gr, .int .i64 hold, .slice na n nc]), (1, .int .i64 t), (2, .slice la m lc), (3, .pointer (some ⟨w.heap.size, 0, none⟩)), (4, .pointer (some ⟨w3.heap.size, 0, none⟩)), (6, .pointer none), (7, .int .i64 0), (8, .int .i64 (ticksE gr hold nd t)), (16, .bool false), (25, .bool (!(allN (fun i => rightB gr nd t (l[i]?.getD [])) m)))] := F.sub _
   refine X.thenN ?_
   cases h9 : allN (fun i => rightB gr nd t (l[i]?.getD [])) m with
   | false =>
    try rw [h9] at F
    refine Y.condT (F.ev 25 (.bool true)) ?_
    refine Y.seq ?_
    refine Y.lit (by kernel_rfl) ?_
    refine Y.pval F (X.w0 rfl) rfl (X.assign rfl (X.kc (.pointer none) rfl)) ?_
    clear F ac
    intro ac F
    refine Y.pval F (X.w0 rfl) rfl (X.assign rfl (X.kc (.int .i64 91) rfl)) ?_
    clear F ac
    intro ac F
    refine Y.nil ?_
    replace F : Fr ac 52 [(0, .agg #[.int .i64 gr, .int .i64 hold, .slice na n nc]), (1, .int .i64 t), (2, .slice la m lc), (3, .pointer (some ⟨w.heap.size, 0, none⟩)), (4, .pointer (some ⟨w3.heap.size, 0, none⟩)), (6, .pointer none), (7, .int .i64 91), (8, .int .i64 (ticksE gr hold nd t)), (16, .bool false), (25, .bool true)] := F.sub _
    refine X.thenN ?_
    refine Y.ret ?_
    refine X.thenR ?_
    exact Y.ret0 (v := .tuple #[.pointer none, .int .i64 91]) F (Y.rs2 F rfl (by kernel_rfl) (by kernel_rfl)) ⟨fun _ => by rw [(playE_bad2 hl.len hE (by simpa using h9))], G, fun h => by rw [(playE_bad2 hl.len hE (by simpa using h9))] at h; cases h⟩
   | true =>
    try rw [h9] at F
    refine Y.condF (F.ev 25 (.bool false)) ?_
    refine Y.skip ?_
    refine X.thenN ?_
    refine Y.seq ?_
    refine Y.lit (by kernel_rfl) ?_
    refine Y.pval F (X.w0 rfl) rfl (X.load rfl (F.ev 3 (.pointer (some ⟨w.heap.size, 0, none⟩))) (X.ldN (Try.agg24 _) (Try.siz24 _) (Y.atz (⟨w.heap.size, 0, none⟩) (Y.AtFrom.cons (hC.at 0 rfl) (Y.AtFrom.cons (hC.at 1 rfl) (Y.AtFrom.cons (hC.at 2 rfl) (Y.AtFrom.nil _ _ _))))))) ?_
    clear F ac
    intro ac F
    refine Y.pval F (X.w0 rfl) rfl (X.move rfl (F.ev 2 (.slice la m lc))) ?_
    clear F ac
    intro ac F
    refine Y.pval F (X.w0 rfl) rfl (Y.bd rfl (X.b2 (F.ev 26 (.agg #[.int .i64 gr, .int .i64 hold, .slice na n nc])) (F.ev 27 (.slice la m lc))) (Try.bd101 _ _ _ _ _ _ _ _ _)) ?_
    clear F ac
    intro ac F
    refine Y.pval F (X.w0 rfl) rfl (X.box rfl (F.ev 28 (.agg #[.int .i64 gr, .int .i64 hold, .slice na n nc, .slice la m lc, .slice none 0 0])) X.bx) ?_
    clear F ac
    intro ac F
    have hq1 : w3.heap.size < w8.heap.size := hT.lt
    have g := Gr.alloc w8 (.cells #[.int .i64 gr, .int .i64 hold, .slice na n nc, .slice la m lc, .slice none 0 0] 101)
    have hb := heap_alloc_new w8 (.cells #[.int .i64 gr, .int .i64 hold, .slice na n nc, .slice la m lc, .slice none 0 0] 101)
    have hbl : w8.heap.size < (w8.alloc (.cells #[.int .i64 gr, .int .i64 hold, .slice na n nc, .slice la m lc, .slice none 0 0] 101)).heap.size := by simp
    generalize w8.alloc (.cells #[.int .i64 gr, .int .i64 hold, .slice na n nc, .slice la m lc, .slice none 0 0] 101) = w10 at *
    replace G := G.trans g
    replace hC := hC.gr g
    replace hnd := hnd.gr g
    replace hl := hl.gr g
    replace hT := hT.gr g
    have hB := pval_new hb
    clear g hb hbl
    refine Y.pval F (X.w0 rfl) rfl (X.assign rfl (F.ev 29 (.pointer (some ⟨w8.heap.size, 0, none⟩)))) ?_
    clear F ac
    intro ac F
    refine Y.nil ?_
    replace F : Fr ac 52 [(0, .agg #[.int .i64 gr, .int .i64 hold, .slice na n nc]), (1, .int .i64 t), (2, .slice la m lc), (3, .pointer (some ⟨w.heap.size, 0, none⟩)), (4, .pointer (some ⟨w3.heap.size, 0, none⟩)), (6, .pointer none), (7, .int .i64 0), (8, .int .i64 (ticksE gr hold nd t)), (9, .pointer (some ⟨w8.heap.size, 0, none⟩)), (16, .bool false), (25, .bool false)] := F.sub _
    refine X.thenN ?_
    refine Y.seq ?_
    refine Y.seq ?_
    refine Y.lit (by kernel_rfl) ?_
    refine Y.pval F (X.w0 rfl) rfl (X.field rfl (F.ev 3 (.pointer (some ⟨w.heap.size, 0, none⟩))) (X.fld Try.underlying24 rfl (Try.siz22 _) rfl rfl)) ?_
    clear F ac
    intro ac F
    refine Y.pval F (X.w0 rfl) rfl (X.load rfl (F.ev 30 (.pointer (some ⟨w.heap.size, 2, none⟩))) (X.ld1 (Try.agg22 _) (hC.at 2 rfl))) ?_
    clear F ac
    intro ac F
    refine Y.pval F (X.w0 rfl) rfl (X.len1 Try.underlying22 rfl (F.ev 31 (.slice na n nc))) ?_
    clear F ac
    intro ac F
    refine Y.pval F (X.w0 rfl) rfl (X.move rfl (X.kc (.int .i64 0) rfl)) ?_
    clear F ac
    intro ac F
    refine Y.nil ?_
    replace F : Fr ac 52 [(0, .agg #[.int .i64 gr, .int .i64 hold, .slice na n nc]), (1, .int .i64 t), (2, .slice la m lc), (3, .pointer (some ⟨w.heap.size, 0, none⟩)), (4, .pointer (some ⟨w3.heap.size, 0, none⟩)), (6, .pointer none), (7, .int .i64 0), (8, .int .i64 (ticksE gr hold nd t)), (9, .pointer (some ⟨w8.heap.size, 0, none⟩)), (16, .bool false), (25, .bool false), (31, .slice na n nc), (32, .int .i64 n), (33, .int .i64 0)] := F.sub _
    refine X.thenN ?_
    refine Y.block ?_
    have hbp1 : w8.heap.size < w10.heap.size := hB.lt
    refine Y.loop (fun me_ ac wr => ∃ (i : Nat) (v : Value), me_ = n - i ∧ i ≤ n ∧ Only (fun b => b = w8.heap.size) w10 wr ∧ OwnP wr w8.heap.size 5 (PVal gr hold na n nc la m lc v) ∧ OwnR wr w10.heap.size 104 17 v i (flatN nd i) ∧ Fr ac 52 [(0, .agg #[.int .i64 gr, .int .i64 hold, .slice na n nc]), (1, .int .i64 t), (2, .slice la m lc), (3, .pointer (some ⟨w.heap.size, 0, none⟩)), (4, .pointer (some ⟨w3.heap.size, 0, none⟩)), (6, .pointer none), (7, .int .i64 0), (8, .int .i64 (ticksE gr hold nd t)), (9, .pointer (some ⟨w8.heap.size, 0, none⟩)), (16, .bool false), (25, .bool false), (31, .slice na n nc), (32, .int .i64 n), (33, .int .i64 i)]) _ ⟨0, _, rfl, Nat.zero_le _, Only.refl _ _, hB, OwnR.nil _ _ _ _, F.sub _⟩ ?_
    have hCs := hC
    have Gs := G
    have hTs := hT
    clear F hC G hB hT hnd hl ac
    intro me_ ac w11 hI_
    obtain ⟨i, v, rfl, hi, hI, hB, hO, F⟩ := hI_
    have G := Y.Only.up Gs hI (by omega)
    have hnd := hnd0.gr G
    have hl := hl0.gr G
    have hT := hTs.only hI (by show ¬ _ = _; omega)
    have hC : RCells w11 [(⟨w.heap.size, 0, none⟩, .int .i64 gr), (⟨w.heap.size, 1, none⟩, .int .i64 hold), (⟨w.heap.size, 2, none⟩, .slice na n nc), (⟨w3.heap.size, 0, none⟩, .int .i64 t)] := (RCells.cons (hI.cell (hCs.at 0 rfl) (by show ¬ w.heap.size = w8.heap.size; omega)) (RCells.cons (hI.cell (hCs.at 1 rfl) (by show ¬ w.heap.size = w8.heap.size; omega)) (RCells.cons (hI.cell (hCs.at 2 rfl) (by show ¬ w.heap.size = w8.heap.size; omega)) (RCells.cons (hI.cell (hCs.at 3 rfl) (by show ¬ w3.heap.size = w8.heap.size; omega)) (RCells.nil _)))))
    refine Y.seq ?_
    refine Y.lit (by kernel_rfl) ?_
    refine Y.pval F (X.w0 rfl) rfl (X.binop rfl (F.ev 33 (.int .i64 i)) (F.ev 32 (.int .i64 n)) (X.lssI Try.underlying3 rfl)) ?_
    clear F ac
    intro ac F
    refine Y.nil ?_
    replace F : Fr ac 52 [(0, .agg #[.int .i64 gr, .int .i64 hold, .slice na n nc]), (1, .int .i64 t), (2, .slice la m lc), (3, .pointer (some ⟨w.heap.size, 0, none⟩)), (4, .pointer (some ⟨w3.heap.size, 0, none⟩)), (6, .pointer none), (7, .int .i64 0), (8, .int .i64 (ticksE gr hold nd t)), (9, .pointer (some ⟨w8.heap.size, 0, none⟩)), (16, .bool false), (25, .bool false), (31, .slice na n nc), (32, .int .i64 n), (33, .int .i64 i), (34, .bool (decide ((i : Int) < n)))] := F.sub _
    refine X.thenN ?_
    refine Y.seq ?_
    cases h12 : decide ((i : Int) < n) with
    | false =>
     try rw [h12] at F
     have h12p : ¬ ((i : Int) < n) := of_decide_eq_false h12
     obtain rfl : n = i := by omega
     refine Y.condF (F.ev 34 (.bool false)) ?_
     refine Y.exit ?_
     refine X.thenX ?_
     refine X.thenX ?_
     refine X.blockX ?_
     refine X.thenN ?_
     refine Y.seq ?_
     refine Y.lit (by kernel_rfl) ?_
     refine Y.pval F (X.w0 rfl) rfl (X.move rfl (F.ev 9 (.pointer (some ⟨w8.heap.size, 0, none⟩)))) ?_
     clear F ac
     intro ac F
     refine Y.pval F (X.w0 rfl) rfl (X.assign rfl (F.ev 51 (.pointer (some ⟨w8.heap.size, 0, none⟩)))) ?_
     clear F ac
     intro ac F
     refine Y.pval F (X.w0 rfl) rfl (X.assign rfl (X.kc (.int .i64 0) rfl)) ?_
     clear F ac
     intro ac F
     refine Y.nil ?_
     replace F : Fr ac 52 [(0, .agg #[.int .i64 gr, .int .i64 hold, .slice na n nc]), (1, .int .i64 t), (2, .slice la m lc), (3, .pointer (some ⟨w.heap.size, 0, none⟩)), (4, .pointer (some ⟨w3.heap.size, 0, none⟩)), (6, .pointer (some ⟨w8.heap.size, 0, none⟩)), (7, .int .i64 0), (8, .int .i64 (ticksE gr hold nd t)), (9, .pointer (some ⟨w8.heap.size, 0, none⟩)), (16, .bool false), (25, .bool false), (31, .slice na n nc), (32, .int .i64 n), (33, .int .i64 n), (34, .bool false)] := F.sub _
     refine X.thenN ?_
     refine Y.ret ?_
     refine Y.ret0 (v := .tuple #[.pointer (some ⟨w8.heap.size, 0, none⟩), .int .i64 0]) F (Y.rs2 F rfl (by kernel_rfl) (by kernel_rfl)) ⟨fun h => absurd (playE_good hnd.len hl.len hE (by omega) (by simpa using h9)) h, G, fun _ => ⟨_, rfl, ?_⟩⟩
     rcases hO.shape with ⟨rfl, h0⟩ | ⟨g2, c2, rfl, hg2, hg3⟩
     ·subst h0
      exact ⟨w3.heap.size, none, 0, ⟨G, s9p hB, hl0, by omega, by omega, by omega, fun h => by omega⟩, hT⟩
     ·exact ⟨g2, _, c2, ⟨G, s9p hB, hl0, by omega, by omega, by omega, fun _ => rfl⟩, hO.ownP (fun j u h => flatN_at h)⟩
    | true =>
     try rw [h12] at F
     have h12p : ((i : Int) < n) := of_decide_eq_true h12
     refine Y.condT (F.ev 34 (.bool true)) ?_
     refine Y.skip ?_
     refine X.thenN ?_
     refine Y.seq ?_
     refine Y.block ?_
     refine Y.seq ?_
     refine Y.lit (by kernel_rfl) ?_
     obtain ⟨pd13, pe13, -, -, pc13⟩ := hnd.at (j := i) (by omega)
     subst pe13
     replace hC : RCells w11 [(⟨w.heap.size, 0, none⟩, .int .i64 gr), (⟨w.heap.size, 1, none⟩, .int .i64 hold), (⟨w.heap.size, 2, none⟩, .slice (some pd13) n nc), (⟨w3.heap.size, 0, none⟩, .int .i64 t), (pd13.add (i * 5), .int .i64 (cv nd i 0)), (⟨(pd13.add (i * 5)).block, (pd13.add (i * 5)).off + 1, none⟩, .int .i64 (cv nd i 1)), (⟨(pd13.add (i * 5)).block, (pd13.add (i * 5)).off + 2, none⟩, .int .i64 (cv nd i 2)), (⟨(pd13.add (i * 5)).block, (pd13.add (i * 5)).off + 3, none⟩, .int .i64 (cv nd i 3)), (⟨(pd13.add (i * 5)).block, (pd13.add (i * 5)).off + 4, none⟩, .int .i64 (cv nd i 4))] := hC.append ((RCells.cons (pc13 0 (by decide)) (RCells.cons (pc13 1 (by decide)) (RCells.cons (pc13 2 (by decide)) (RCells.cons (pc13 3 (by decide)) (RCells.cons (pc13 4 (by decide)) (RCells.nil _)))))))
     clear pc13
     refine Y.pval F (X.w0 rfl) rfl (X.index rfl (F.ev 31 (.slice (some pd13) n nc)) (F.ev 33 (.int .i64 i)) (X.idx (k := i) Try.underlying22 (Try.siz31 _) (by omega) (by omega) rfl)) ?_
     clear F ac
     intro ac F
     refine Y.pval F (X.w0 rfl) rfl (X.load rfl (F.ev 35 (.pointer (some (pd13.add (i * 5))))) (X.ldN (Try.agg31 _) (Try.siz31 _) (Y.atz (pd13.add (i * 5)) (Y.AtFrom.cons (hC.at 4 rfl) (Y.AtFrom.cons (hC.at 5 rfl) (Y.AtFrom.cons (hC.at 6 rfl) (Y.AtFrom.cons (hC.at 7 rfl) (Y.AtFrom.cons (hC.at 8 rfl) (Y.AtFrom.nil _ _ _))))))))) ?_
     clear F ac
     intro ac F
     refine Y.pval F (X.w0 rfl) rfl (Y.al rfl (Try.new31 _)) ?_
     clear F ac
     intro ac F
     refine Y.punit F (X.w0 rfl) rfl (X.store rfl (F.ev 11 (.pointer (some ⟨w11.heap.size, 0, none⟩))) (F.ev 36 (.agg #[.int .i64 (cv nd i 0), .int .i64 (cv nd i 1), .int .i64 (cv nd i 2), .int .i64 (cv nd i 3), .int .i64 (cv nd i 4)])) (Y.stNew [.int .i64 (cv nd i 0), .int .i64 (cv nd i 1), .int .i64 (cv nd i 2), .int .i64 (cv nd i 3), .int .i64 (cv nd i 4)] [.int .i64 0, .int .i64 0, .int .i64 0, .int .i64 0, .int .i64 0] (Try.siz31 _) rfl rfl)) ?_
     clear F ac
     intro ac F
     have g := Gr.alloc w11 (.cells #[.int .i64 (cv nd i 0), .int .i64 (cv nd i 1), .int .i64 (cv nd i 2), .int .i64 (cv nd i 3), .int .i64 (cv nd i 4)] 31)
     have hb := heap_alloc_new w11 (.cells #[.int .i64 (cv nd i 0), .int .i64 (cv nd i 1), .int .i64 (cv nd i 2), .int .i64 (cv nd i 3), .int .i64 (cv nd i 4)] 31)
     have hbl : w11.heap.size < (w11.alloc (.cells #[.int .i64 (cv nd i 0), .int .i64 (cv nd i 1), .int .i64 (cv nd i 2), .int .i64 (cv nd i 3), .int .i64 (cv nd i 4)] 31)).heap.size := by simp
     have hC2 : RCells (w11.alloc (.cells #[.int .i64 (cv nd i 0), .int .i64 (cv nd i 1), .int .i64 (cv nd i 2), .int .i64 (cv nd i 3), .int .i64 (cv nd i 4)] 31)) [(⟨w.heap.size, 0, none⟩, .int .i64 gr), (⟨w.heap.size, 1, none⟩, .int .i64 hold), (⟨w.heap.size, 2, none⟩, .slice (some pd13) n nc), (⟨w3.heap.size, 0, none⟩, .int .i64 t), (pd13.add (i * 5), .int .i64 (cv nd i 0)), (⟨(pd13.add (i * 5)).block, (pd13.add (i * 5)).off + 1, none⟩, .int .i64 (cv nd i 1)), (⟨(pd13.add (i * 5)).block, (pd13.add (i * 5)).off + 2, none⟩, .int .i64 (cv nd i 2)), (⟨(pd13.add (i * 5)).block, (pd13.add (i * 5)).off + 3, none⟩, .int .i64 (cv nd i 3)), (⟨(pd13.add (i * 5)).block, (pd13.add (i * 5)).off + 4, none⟩, .int .i64 (cv nd i 4)), (⟨w11.heap.size, 0, none⟩, .int .i64 (cv nd i 0)), (⟨w11.heap.size, 1, none⟩, .int .i64 (cv nd i 1)), (⟨w11.heap.size, 2, none⟩, .int .i64 (cv nd i 2)), (⟨w11.heap.size, 3, none⟩, .int .i64 (cv nd i 3)), (⟨w11.heap.size, 4, none⟩, .int .i64 (cv nd i 4))] := hC.box (b := w11.heap.size) #[.int .i64 (cv nd i 0), .int .i64 (cv nd i 1), .int .i64 (cv nd i 2), .int .i64 (cv nd i 3), .int .i64 (cv nd i 4)] 31 rfl
     generalize w11.alloc (.cells #[.int .i64 (cv nd i 0), .int .i64 (cv nd i 1), .int .i64 (cv nd i 2), .int .i64 (cv nd i 3), .int .i64 (cv nd i 4)] 31) = w14 at *
     replace G := G.trans g
     replace hC := hC2
     clear hC2
     replace hI := hI.thenGr g
     replace hnd := hnd.gr g
     replace hl := hl.gr g
     replace hB := hB.gr g
     replace hT := hT.gr g
     replace hO := hO.gr g
     clear g hb hbl
     refine Y.nil ?_
     replace F : Fr ac 52 [(0, .agg #[.int .i64 gr, .int .i64 hold, .slice (some pd13) n nc]), (1, .int .i64 t), (2, .slice la m lc), (3, .pointer (some ⟨w.heap.size, 0, none⟩)), (4, .pointer (some ⟨w3.heap.size, 0, none⟩)), (6, .pointer none), (7, .int .i64 0), (8, .int .i64 (ticksE gr hold nd t)), (9, .pointer (some ⟨w8.heap.size, 0, none⟩)), (11, .pointer (some ⟨w11.heap.size, 0, none⟩)), (16, .bool false), (25, .bool false), (31, .slice (some pd13) n nc), (32, .int .i64 n), (33, .int .i64 i), (34, .bool true)] := F.sub _
     refine X.thenN ?_
     replace hC : RCells w14 [(⟨w.heap.size, 0, none⟩, .int .i64 gr), (⟨w.heap.size, 1, none⟩, .int .i64 hold), (⟨w.heap.size, 2, none⟩, .slice (some pd13) n nc), (⟨w3.heap.size, 0, none⟩, .int .i64 t), (pd13.add (i * 5), .int .i64 (cv nd i 0)), (⟨(pd13.add (i * 5)).block, (pd13.add (i * 5)).off + 1, none⟩, .int .i64 (cv nd i 1)), (⟨(pd13.add (i * 5)).block, (pd13.add (i * 5)).off + 2, none⟩, .int .i64 (cv nd i 2)), (⟨(pd13.add (i * 5)).block, (pd13.add (i * 5)).off + 3, none⟩, .int .i64 (cv nd i 3)), (⟨(pd13.add (i * 5)).block, (pd13.add (i * 5)).off + 4, none⟩, .int .i64 (cv nd i 4)), (⟨w11.heap.size, 0, none⟩, .int .i64 (cv nd i 0)), (⟨w11.heap.size, 1, none⟩, .int .i64 (cv nd i 1)), (⟨w11.heap.size, 2, none⟩, .int .i64 (cv nd i 2)), (⟨w11.heap.size, 3, none⟩, .int .i64 (cv nd i 3)), (⟨w11.heap.size, 4, none⟩, .int .i64 (cv nd i 4)), (⟨w8.heap.size, 4, none⟩, v)] := hC.append ((RCells.cons (hB.cell (k := 4) (by decide)) (RCells.nil _)))
     have hsz0 : w10.heap.size ≤ w14.heap.size := hI.size
     refine region_xi F [some (.pointer (some ⟨w8.heap.size, 0, none⟩)), some (.pointer (some ⟨w8.heap.size, 0, none⟩)), some (.pointer (some ⟨w8.heap.size, 0, none⟩)), some (.pointer (some ⟨w8.heap.size, 4, none⟩)), some (v), some (.agg #[.int .i64 (cv nd i 0), .int .i64 (cv nd i 1), .int .i64 (cv nd i 2), .int .i64 (cv nd i 3), .int .i64 (cv nd i 4)]), some (.pointer (some ⟨w11.heap.size, 3, none⟩)), some (.int .i64 (cv nd i 3)), some (.agg #[.int .i64 (cv nd i 0), .int .i64 (cv nd i 1), .int .i64 (cv nd i 2), .int .i64 (cv nd i 3), .int .i64 (cv nd i 4), .int .i64 0, .int .i64 0, .int .i64 0, .int .i64 0, .int .i64 0, .int .i64 0, .int .i64 0, .int .i64 0, .int .i64 0, .int .i64 0, .int .i64 (cv nd i 3), .bool false]), none, none, some (.pointer (some ⟨w8.heap.size, 0, none⟩)), some (.pointer (some ⟨w8.heap.size, 4, none⟩)), none] (RAp w14 9 10 13 (fun v W => ∃ g9, v = .slice (some ⟨g9, 0, none⟩) 1 1 ∧ W.heap[g9]? = some (.cells (row17 nd i).toArray 104)) (fun x W => ∃ g2 c2, x = .slice (some ⟨g2, 0, none⟩) (i + 1) c2 ∧ OwnR W w10.heap.size 104 17 (.slice (some ⟨g2, 0, none⟩) (i + 1) c2) (i + 1) (flatN nd i ++ row17 nd i) ∧ Only (fun b => v.ownBlock = some b) w14 W) (fun W => ∃ g2 c2, OwnR W w10.heap.size 104 17 (.slice (some ⟨g2, 0, none⟩) (i + 1) c2) (i + 1) (flatN nd i ++ row17 nd i) ∧ OwnP W w8.heap.size 5 (PVal gr hold (some pd13) n nc la m lc (.slice (some ⟨g2, 0, none⟩) (i + 1) c2)) ∧ Only (fun b => b = w8.heap.size) w10 W)) rfl ⟨by kernel_rfl, of_decide_eq_true (by kernel_rfl), by kernel_rfl, by kernel_rfl, by kernel_rfl⟩ (fun _ => ⟨RAp.start (Gr.refl _), RAp.start (Gr.drew _)⟩) ⟨?_, ?_, ?_, ?_, ?_, ?_, ?_, ?_, ?_, ?_, ?_, ?_, ?_, ?_, trivial⟩ ?_
     ·intro ac done u W Sx hR
      exact X.val (X.w0 rfl) rfl (X.move rfl (Sx.ev 9 (.pointer (some ⟨w8.heap.size, 0, none⟩)))) (hR.quiet (by decide))
     ·intro ac done u W Sx hR
      exact X.val (X.w0 rfl) rfl (X.move rfl (Sx.ev 9 (.pointer (some ⟨w8.heap.size, 0, none⟩)))) (hR.quiet (by decide))
     ·intro ac done u W Sx hR
      exact X.val (X.w0 rfl) rfl (Y.nilC rfl (Sx.ev 38 (.pointer (some ⟨w8.heap.size, 0, none⟩)))) (hR.quiet (by decide))
     ·intro ac done u W Sx hR
      exact X.val (X.w0 rfl) rfl (X.field rfl (Sx.ev 39 (.pointer (some ⟨w8.heap.size, 0, none⟩))) (X.fld Try.underlying101 rfl (Try.siz99 _) rfl rfl)) (hR.quiet (by decide))
     ·intro ac done u W Sx hR
      have g : Gr w14 W := hR.g (Sx.no 10 (by kernel_rfl)) (Sx.no 13 (by kernel_rfl))
      exact X.val (X.w0 rfl) rfl (X.load rfl (Sx.ev 40 (.pointer (some ⟨w8.heap.size, 4, none⟩))) (X.ld1 (Try.agg99 _) ((hC.gr g).at 14 rfl))) (hR.quiet (by decide))
     ·intro ac done u W Sx hR
      have g : Gr w14 W := hR.g (Sx.no 10 (by kernel_rfl)) (Sx.no 13 (by kernel_rfl))
      exact X.val (X.w0 rfl) rfl (X.load rfl (Sx.ev 11 (.pointer (some ⟨w11.heap.size, 0, none⟩))) (X.ldN (Try.agg31 _) (Try.siz31 _) (Y.atz (⟨w11.heap.size, 0, none⟩) (Y.AtFrom.cons ((hC.gr g).at 9 rfl) (Y.AtFrom.cons ((hC.gr g).at 10 rfl) (Y.AtFrom.cons ((hC.gr g).at 11 rfl) (Y.AtFrom.cons ((hC.gr g).at 12 rfl) (Y.AtFrom.cons ((hC.gr g).at 13 rfl) (Y.AtFrom.nil _ _ _))))))))) (hR.quiet (by decide))
     ·intro ac done u W Sx hR
      exact X.val (X.w0 rfl) rfl (X.field rfl (Sx.ev 11 (.pointer (some ⟨w11.heap.size, 0, none⟩))) (X.fld Try.underlying31 rfl (Try.siz3 _) rfl rfl)) (hR.quiet (by decide))
     ·intro ac done u W Sx hR
      have g : Gr w14 W := hR.g (Sx.no 10 (by kernel_rfl)) (Sx.no 13 (by kernel_rfl))
      exact X.val (X.w0 rfl) rfl (X.load rfl (Sx.ev 43 (.pointer (some ⟨w11.heap.size, 3, none⟩))) (X.ld1 (Try.agg3 _) ((hC.gr g).at 12 rfl))) (hR.quiet (by decide))
     ·intro ac done u W Sx hR
      exact X.val (X.w0 rfl) rfl (Y.bd rfl (Y.b03 (Sx.ev 42 (.agg #[.int .i64 (cv nd i 0), .int .i64 (cv nd i 1), .int .i64 (cv nd i 2), .int .i64 (cv nd i 3), .int .i64 (cv nd i 4)])) (Sx.ev 44 (.int .i64 (cv nd i 3)))) (Try.bd104 _ _ _ _ _ _ _)) (hR.quiet (by decide))
     ·intro ac done u W Sx hR
      have g : Gr w14 W := hR.g (Sx.no 10 (by kernel_rfl)) (Sx.no 13 (by kernel_rfl))
      exact X.valN (X.w0 rfl) rfl (X.bs rfl (X.b1 (Sx.ev 45 (.agg #[.int .i64 (cv nd i 0), .int .i64 (cv nd i 1), .int .i64 (cv nd i 2), .int .i64 (cv nd i 3), .int .i64 (cv nd i 4), .int .i64 0, .int .i64 0, .int .i64 0, .int .i64 0, .int .i64 0, .int .i64 0, .int .i64 0, .int .i64 0, .int .i64 0, .int .i64 0, .int .i64 (cv nd i 3), .bool false]))) (Try.bs99 _ _ _ _ _ _ _)) (hR.s9 (by decide) (Sx.no 10 (by kernel_rfl)) (Sx.no 13 (by kernel_rfl)) (Gr.alloc _ _) ⟨_, rfl, World.alloc_heap_new _ _⟩)
     ·intro ac done u W Sx hR
      have g : Gr w14 W := hR.g Sx.nd (Sx.no 13 (by kernel_rfl))
      have hgs := g.size
      obtain ⟨g9, e9, hg9⟩ := hR.g9 (Sx.an 9 (by kernel_rfl)) Sx.nd (Sx.no 13 (by kernel_rfl))
      exact X.law (X.w0 rfl) (fun K hK => wp_pushV Try.underlying99 Try.info104 rfl (by decide) rfl (Sx.ev 41 (v)) ((Sx.own 9 46 rfl).trans e9) (hO.gr g) (m := 1) (news := row17 nd i) rfl (cells_at hg9) rfl (by omega) (by decide) (by omega) (fun v2 W2 hO2 hon hat => hK v2 W2 (fun x hx => by cases hx) (hR.s10 (by decide) (Sx.no 13 (by kernel_rfl)) (by
       have hsh := hO2.shape
       rcases hsh with ⟨_, h0⟩ | ⟨g2, c2, e2, _⟩
       ·omega
       ·subst e2; exact ⟨g2, c2, rfl, hO2, (g.only _).trans hon⟩))))
     ·intro ac done u W Sx hR
      exact X.val (X.w0 rfl) rfl (Y.nilC rfl (Sx.ev 37 (.pointer (some ⟨w8.heap.size, 0, none⟩)))) (hR.quiet (by decide))
     ·intro ac done u W Sx hR
      exact X.val (X.w0 rfl) rfl (X.field rfl (Sx.ev 48 (.pointer (some ⟨w8.heap.size, 0, none⟩))) (X.fld Try.underlying101 rfl (Try.siz99 _) rfl rfl)) (hR.quiet (by decide))
     ·intro ac done u W Sx hR
      obtain ⟨g2, c2, e2, hO2, hon⟩ := hR.g10 (Sx.an 10 (by kernel_rfl)) Sx.nd
      have hge := fun b e => hO.ge (b := b) e
      have hB2 := hB.only hon (fun e => by have := (hge _ e).1; omega)
      have hg2 := (hO2.ge (b := g2) rfl).1
      refine X.unit (X.w0 rfl) rfl (X.store rfl (Sx.ev 49 (.pointer (some ⟨w8.heap.size, 4, none⟩))) ((Sx.own 10 47 rfl).trans e2) (hB2.st1 (Try.siz99 _) rfl rfl (by decide))) (RAp.s13 ⟨g2, c2, ?_, (hB2.set _).congr (PVal_set _ _ _ _ _ _ _ _ _ _), ?_⟩)
      ·exact hO2.only (Y.set_only _ _ _ _) (fun b e h => by simp [Value.ownBlock] at e; omega)
      ·exact (hI.step2 hon (fun r e => .inr (hge r e).1)).step (Y.set_only _ _ _ _) (.inl rfl)
     rintro ac u w15 hs hd hl_ ho hR
     obtain ⟨g2, c2, hO, hB, hI⟩ := hR.g13 rfl
     replace F : Fr ac 52 [(0, .agg #[.int .i64 gr, .int .i64 hold, .slice (some pd13) n nc]), (1, .int .i64 t), (2, .slice la m lc), (3, .pointer (some ⟨w.heap.size, 0, none⟩)), (4, .pointer (some ⟨w3.heap.size, 0, none⟩)), (6, .pointer none), (7, .int .i64 0), (8, .int .i64 (ticksE gr hold nd t)), (9, .pointer (some ⟨w8.heap.size, 0, none⟩)), (11, .pointer (some ⟨w11.heap.size, 0, none⟩)), (16, .bool false), (25, .bool false), (31, .slice (some pd13) n nc), (32, .int .i64 n), (33, .int .i64 i), (34, .bool true)] := X.fr hs hd hl_ _ (by kernel_rfl)
     clear hs hd hl_ ho hR hC G hnd hl hT
     have G := Y.Only.up Gs hI (by omega)
     have hC := RCells.nil w15
     refine X.blockN ?_
     refine X.thenN ?_
     refine Y.lit (by kernel_rfl) ?_
     refine Y.pval F (X.w0 rfl) rfl (X.binop rfl (F.ev 33 (.int .i64 i)) (X.kc (.int .i64 1) rfl) (X.addI Try.underlying3 rfl (by omega) (by omega))) ?_
     clear F ac
     intro ac F
     refine Y.pval F (X.w0 rfl) rfl (X.move rfl (F.ev 50 (.int .i64 ((i : Int) + 1)))) ?_
     clear F ac
     intro ac F
     refine Y.nil ?_
     replace F : Fr ac 52 [(0, .agg #[.int .i64 gr, .int .i64 hold, .slice (some pd13) n nc]), (1, .int .i64 t), (2, .slice la m lc), (3, .pointer (some ⟨w.heap.size, 0, none⟩)), (4, .pointer (some ⟨w3.heap.size, 0, none⟩)), (6, .pointer none), (7, .int .i64 0), (8, .int .i64 (ticksE gr hold nd t)), (9, .pointer (some ⟨w8.heap.size, 0, none⟩)), (11, .pointer (some ⟨w11.heap.size, 0, none⟩)), (16, .bool false), (25, .bool false), (31, .slice (some pd13) n nc), (32, .int .i64 n), (33, .int .i64 ((i : Int) + 1)), (34, .bool true)] := F.sub _
     refine X.thenN ?_
     refine ⟨_, ?_, i + 1, .slice (some ⟨g2, 0, none⟩) (i + 1) c2, rfl, by omega, hI, hB, by rw [flatN_succ]; exact hO, F.sub _⟩
     omega
  | true =>
   try rw [h7] at F
   have h7p : ((200 : Int) < m) := of_decide_eq_true h7
   refine Y.pskip F (X.w2 rfl (F.yl (j := 3) (d := 21) (b := true) rfl (by kernel_rfl)) rfl) rfl ?_
   clear F ac
   intro ac F
   refine Y.pskip F (X.w2 rfl (F.yl (j := 3) (d := 21) (b := true) rfl (by kernel_rfl)) rfl) rfl ?_
   clear F ac
   intro ac F
   refine Y.pskip F (X.w2 rfl (F.yl (j := 3) (d := 21) (b := true) rfl (by kernel_rfl)) rfl) rfl ?_
   clear F ac
   intro ac F
   refine Y.pval F (X.w0 rfl) rfl (X.pickT rfl (F.ev 21 (.bool true)) (X.kc (.bool true) rfl)) ?_
   clear F ac
   intro ac F
   refine Y.nil ?_
   replace F : Fr ac 52 [(0, .agg #[.int .i64 gr, .int .i64 hold, .slice na n nc]), (1, .int .i64 t), (2, .slice la m lc), (3, .pointer (some ⟨w.heap.size, 0, none⟩)), (4, .pointer (some ⟨w3.heap.size, 0, none⟩)), (6, .pointer none), (7, .int .i64 0), (8, .int .i64 (ticksE gr hold nd t)), (16, .bool false), (25, .bool true)] := F.sub _
   refine X.thenN ?_
   refine Y.condT (F.ev 25 (.bool true)) ?_
   refine Y.seq ?_
   refine Y.lit (by kernel_rfl) ?_
   refine Y.pval F (X.w0 rfl) rfl (X.assign rfl (X.kc (.pointer none) rfl)) ?_
   clear F ac
   intro ac F
   refine Y.pval F (X.w0 rfl) rfl (X.assign rfl (X.kc (.int .i64 91) rfl)) ?_
   clear F ac
   intro ac F
   refine Y.nil ?_
   replace F : Fr ac 52 [(0, .agg #[.int .i64 gr, .int .i64 hold, .slice na n nc]), (1, .int .i64 t), (2, .slice la m lc), (3, .pointer (some ⟨w.heap.size, 0, none⟩)), (4, .pointer (some ⟨w3.heap.size, 0, none⟩)), (6, .pointer none), (7, .int .i64 91), (8, .int .i64 (ticksE gr hold nd t)), (16, .bool false), (25, .bool true)] := F.sub _
   refine X.thenN ?_
   refine Y.ret ?_
   refine X.thenR ?_
   exact Y.ret0 (v := .tuple #[.pointer none, .int .i64 91]) F (Y.rs2 F rfl (by kernel_rfl) (by kernel_rfl)) ⟨fun _ => by rw [(playE_bad1 hl.len hE (by omega))], G, fun h => by rw [(playE_bad1 hl.len hE (by omega))] at h; cases h⟩
 | true =>
  try rw [h6] at F
  have h6p : ¬ (ticksE gr hold nd t : Int) = 0 := by simpa using h6
  have hE : ¬ ticksE gr hold nd t = 0 := by simpa using h6p
  refine Y.condT (F.ev 16 (.bool true)) ?_
  refine Y.seq ?_
  refine Y.lit (by kernel_rfl) ?_
  refine Y.pval F (X.w0 rfl) rfl (X.move rfl (F.ev 8 (.int .i64 (ticksE gr hold nd t)))) ?_
  clear F ac
  intro ac F
  refine Y.pval F (X.w0 rfl) rfl (X.assign rfl (X.kc (.pointer none) rfl)) ?_
  clear F ac
  intro ac F
  refine Y.pval F (X.w0 rfl) rfl (X.assign rfl (F.ev 17 (.int .i64 (ticksE gr hold nd t)))) ?_
  clear F ac
  intro ac F
  refine Y.nil ?_
  replace F : Fr ac 52 [(0, .agg #[.int .i64 gr, .int .i64 hold, .slice na n nc]), (1, .int .i64 t), (2, .slice la m lc), (3, .pointer (some ⟨w.heap.size, 0, none⟩)), (4, .pointer (some ⟨w3.heap.size, 0, none⟩)), (6, .pointer none), (7, .int .i64 (ticksE gr hold nd t)), (8, .int .i64 (ticksE gr hold nd t)), (16, .bool true)] := F.sub _
  refine X.thenN ?_
  refine Y.ret ?_
  refine X.thenR ?_
  exact Y.ret0 (v := .tuple #[.pointer none, .int .i64 (ticksE gr hold nd t)]) F (Y.rs2 F rfl (by kernel_rfl) (by kernel_rfl)) ⟨fun _ => by rw [playE, if_pos hE], G, fun h => absurd h (by rw [playE, if_pos hE]; exact hE)⟩
end
end Go.Proofs.Ytoalamakhjbedaa
