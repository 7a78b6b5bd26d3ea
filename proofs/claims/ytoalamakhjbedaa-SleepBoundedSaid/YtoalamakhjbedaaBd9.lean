/- Several texts of this claim in one file. (1) The greatest energy of a parked node, tick by tick; what a node takes in a play beyond the calls is no more. Nothing of the program is proved here. (2) Contract: Noises. -/
import Derived.Test.YtoalamakhjbedaaBd3
import Derived.Test.YtoalamakhjbedaaBd8
import Derived.Laws.StructEq
namespace Go.Proofs.Ytoalamakhjbedaa
section
set_option linter.unusedVariables false
open Go.RowKit
/-- the greatest energy in m ticks from t on; r: 0 free, 1 asleep behind a noise, else awake for r - 1 ticks -/
def enF (p : Nd) : Nat → Int → Int → Nat → Int
  | 0, _, _, _ => 0
  | m + 1, t, x, r =>
    if r = 0 then (if refV p t x = 0 then p.za + enF p m (t + 1) (refV p t x) 0 else max (p.za + enF p m (t + 1) (refV p t x) 0) (p.aw + enF p m (t + 1) (refV p t x - 1) p.hold.toNat))
    else if r = 1 then p.za + enF p m (t + 1) (refV p t x) 0 else p.aw + enF p m (t + 1) (refV p t x) (r - 1)
theorem pick2_fst (a b : Int × Int) : (pick2 a b).1 = max b.1 a.1 := by
  unfold pick2 betB orI cmpI
  by_cases h1 : a.1 < b.1
  · simp [h1]; omega
  · by_cases h2 : b.1 < a.1
    · simp [h1, h2]; omega
    · have e : a.1 = b.1 := by omega
      have h : ∀ c : Bool, (if c = true then a else b).1 = a.1 := fun c => by
        cases c
        · exact e.symm
        · rfl
      rw [h]; omega
theorem wk_path {p : Nd} (h : NdOk p) {t y : Int} (m : Nat) : ∀ k : Nat, (k : Int) ≤ p.hold → k ≤ m → p.aw + enF p m (t + 1) (y - 1) p.hold.toNat = (wkV p t y k).2 + enF p (m - k) (t + 1 + k) (wkV p t y k).1 (p.hold.toNat - k)
  | 0, _, _ => by simp [wkV]
  | k + 1, h1, h2 => by
    have ih := wk_path h (t := t) (y := y) m k (by omega) (by omega)
    have h0 := h.h0
    rw [ih]
    obtain ⟨q, hq⟩ : ∃ q, m - k = q + 1 := ⟨m - k - 1, by omega⟩
    have hq2 : m - (k + 1) = q := by omega
    rw [hq, hq2]
    simp only [wkV]
    rw [enF, if_neg (by omega)]
    have e : t + 1 + ((k + 1 : Nat) : Int) = t + 1 + k + 1 := by omega
    rw [e]
    by_cases hr : p.hold.toNat - k = 1
    · rw [if_pos hr, if_neg (by omega), show p.hold.toNat - (k + 1) = 0 from by omega]; omega
    · rw [if_neg hr, if_pos (by omega), show p.hold.toNat - (k + 1) = p.hold.toNat - k - 1 from by omega]; omega
theorem best_enF {p : Nd} (h : NdOk p) : ∀ (m : Nat) (t x : Int), 0 ≤ t → p.T - t = m → 0 ≤ x → x ≤ p.bu → (bestV p t x).1 = enF p m t x 0 := by
  intro m
  induction m using Nat.strongRecOn with
  | _ m ih =>
    intro t x h0 hm hx0 hx1
    have hh := h.h0
    match m, ih, hm with
    | 0, _, hm => rw [bestV_done _ (by omega)]; rfl
    | m + 1, ih, hm =>
      have hr := refV_bd h (t := t) hx0 hx1
      rw [enF, if_pos rfl]
      by_cases ha : refV p t x = 0
      · rw [if_pos ha, bestV_stay (by omega) ha]
        simp only [add2]
        rw [ih m (by omega) (t + 1) _ (by omega) (by omega) hr.1 hr.2]; omega
      · rw [if_neg ha, bestV_wake (by omega) ha, pick2_fst]
        simp only [add2]
        have hwb := wkV_bd h (t := t) (a := refV p t x) (by omega) hr.2 (wkN p t)
        have hwn := wkN_bd h h0 (by omega)
        rw [ih m (by omega) (t + 1) _ (by omega) (by omega) hr.1 hr.2, wk_path h m (wkN p t) (by omega) (by omega), show enF p m (t + 1) (refV p t x) 0 + p.za = p.za + enF p m (t + 1) (refV p t x) 0 from Int.add_comm _ _]
        congr 1
        rw [Int.add_comm]
        congr 1
        by_cases hN : (wkN p t : Int) = p.hold
        · rw [show p.hold.toNat - wkN p t = 0 from by omega]
          exact ih (m - wkN p t) (by omega) _ _ (by omega) (by omega) hwb.1.1 hwb.1.2
        · have hd : m - wkN p t = 0 := by
            unfold wkN at *
            simp only [Int.min_def] at *
            split at hN <;> split <;> omega
          rw [hd, bestV_done _ (by omega)]; rfl
section
variable {gr hold t : Int} {nd l : List (List Int)}
theorem quiet8 (hE : playE gr hold nd t l = 0) {k i : Nat} (hk : k < t.toNat) (hi : i < nd.length) (ha : andV ((playAsk gr hold nd t l)[k]?.getD 0) (cv nd i 0) = 0) {j : Nat} (hj : j < 8) :
    sndT hold gr.toNat nd.length l (startS nd) k i (6 + j) = (runFrom hold gr.toNat nd.length l (startS nd) k).s i (6 + j) := by
  have hok := playE_ok hE
  have hn16 := hok.c.n16
  have hg8 := hok.c.g8
  obtain ⟨G, hG, hG2, hG3⟩ := hok.c.groups hi
  obtain ⟨A, h1, h2, h3⟩ := asks_nat (fun i hi => askT_ok hE k hi) nd.length (Nat.le_refl _)
  rw [play_ask hE hk, hG] at ha
  unfold asksG at ha
  rw [h1] at ha
  show sendS hold gr.toNat nd.length _ (disT hold gr.toNat nd.length l (startS nd) k) i (6 + j) = _
  rw [send_none (by omega) (fun a haa g hg => by
    rw [disT_ask, disT_lo (by omega) (by omega) hi (by omega), show startS nd i 0 = cv nd i 0 from rfl, hG]
    obtain ⟨B, hB, hB2⟩ := askT_ok hE k haa
    rw [hB, and_bitB (by omega) (by omega)]
    cases e1 : B.testBit g with
    | false => rfl
    | true =>
      cases e2 : G.testBit g with
      | false => rfl
      | true => exact absurd ha ((and_bit (by omega) (by omega)).2 ⟨g, (h3 g).2 ⟨a, haa, by rw [hB]; simpa using e1⟩, e2⟩)) j]
  show disturbS hold l nd.length k (askT hold gr.toNat nd.length l (startS nd) k) i (6 + j) = _
  rw [disturb_ne _ (by omega) (by omega)]
  exact askS_ne _ (by omega)
theorem groups_off (hE : playE gr hold nd t l = 0) {k i lo : Nat} (hk : k < t.toNat) (hi : i < nd.length) (hlo : max (0 : Int) ((k : Int) - hold + 1) = lo)
    (ha : ∀ j, lo ≤ j → j ≤ k → andV ((playAsk gr hold nd t l)[j]?.getD 0) (cv nd i 0) = 0) {j : Nat} (hj : j < 8) : sndT hold gr.toNat nd.length l (startS nd) k i (6 + j) ≤ 0 := by
  have hok := playE_ok hE
  have hn16 := hok.c.n16
  have hh := hok.c.h1
  have hb : ∀ d, lo + d ≤ k → (runFrom hold gr.toNat nd.length l (startS nd) (lo + d)).s i (6 + j) ≤ max 0 ((k : Int) - (lo + d : Nat)) := by
    intro d
    have hs : startS nd i (6 + j) = 0 := by
      unfold startS
      rw [if_neg (by omega), if_neg (by omega)]
    induction d with
    | zero =>
      intro hd
      rw [Nat.add_zero]
      have h1 := tm_bd (gr := gr.toNat) (l := l) (s := startS nd) hh (by omega : nd.length ≤ 62) hi (by omega : j < 9) (by rw [hs]; omega) lo
      by_cases e : lo = 0
      · subst e
        show startS nd i (6 + j) ≤ _
        rw [hs]; omega
      · omega
    | succ d ih =>
      intro hd
      have h1 := ih (by omega)
      have h2 := quiet8 hE (k := lo + d) (by omega) hi (ha (lo + d) (by omega) (by omega)) hj
      rw [show lo + (d + 1) = (lo + d) + 1 from by omega, run_st (by omega) hi, passN_tm i (by omega), h2]
      split <;> omega
  have hlk : lo ≤ k := by omega
  have h1 := hb (k - lo) (by omega)
  rw [show lo + (k - lo) = k from by omega] at h1
  rw [quiet8 hE hk hi (ha k hlk (Nat.le_refl _)) hj]
  omega
/-- what noise does to a node in a tick -/
theorem noise_two (hh : 1 ≤ hold) {z : PS} {i : Nat} : ∀ L : List (List Int), ((L.foldl (noiseX hold) z) i 15 = z i 15 ∧ (L.foldl (noiseX hold) z) i 14 = z i 14) ∨
    (z i 16 = 0 ∧ 0 < z i 15 ∧ z i 14 = 0 ∧ (L.foldl (noiseX hold) z) i 15 = z i 15 - 1 ∧ (L.foldl (noiseX hold) z) i 14 = hold) := by
  intro L
  induction L generalizing z with
  | nil => exact .inl ⟨rfl, rfl⟩
  | cons x L ih =>
    rw [List.foldl_cons]
    have hx : ∀ j, j ≠ 14 → j ≠ 15 → noiseX hold z x i j = z i j := fun j h1 h2 => by
      unfold noiseX
      split
      · rw [up_ne _ _ (.inr h1), up_ne _ _ (.inr h2)]
      · rfl
    by_cases e : z (nv x 2).toNat 16 = 0 ∧ 0 < z (nv x 2).toNat 15 ∧ z (nv x 2).toNat 14 = 0
    · by_cases ei : (nv x 2).toNat = i
      · have e14 : noiseX hold z x i 14 = hold := by rw [noiseX_pos e.1 e.2.1 e.2.2, ei, up_same]
        have e15 : noiseX hold z x i 15 = z i 15 - 1 := by rw [noiseX_pos e.1 e.2.1 e.2.2, ei, up_ne _ _ (.inr (by decide)), up_same]
        rw [ei] at e
        rcases ih (z := noiseX hold z x) with h | h
        · exact .inr ⟨e.1, e.2.1, e.2.2, by rw [h.1, e15], by rw [h.2, e14]⟩
        · have := h.2.2.1; rw [e14] at this; omega
      · have e1 : ∀ j, noiseX hold z x i j = z i j := fun j => by
          rw [noiseX_pos e.1 e.2.1 e.2.2, up_ne _ _ (.inl (Ne.symm ei)), up_ne _ _ (.inl (Ne.symm ei))]
        have := ih (z := noiseX hold z x)
        rwa [e1, e1, e1] at this
    · have e1 : noiseX hold z x = z := noiseX_neg e
      rw [e1]; exact ih
end
/-- what a node takes in the first k ticks, those aside in which it is called -/
def callB (asked : List Int) (G hold : Int) (k : Nat) : Bool := anyB (fun a => decide ((k : Int) - hold < a) && (andV (asked[a]?.getD 0) G != 0)) (k + 1)
def restV (nd : List (List Int)) (asked rows : List Int) (hold : Int) (i : Nat) : Nat → Int
  | 0 => 0
  | k + 1 => restV nd asked rows hold i k + (if callB asked (cv nd i 0) hold k then 0 else en1 nd (rows[k]?.getD 0) i)
section
variable {gr hold t : Int} {nd l : List (List Int)}
/-- the state of a node before a tick, as the greatest energy sees it -/
def InvF (s : PS) (i : Nat) (r : Nat) : Prop := (0 < s i 14 → (r : Int) = s i 14 + 1) ∧ (s i 14 ≤ 0 → r = 0 ∨ (r = 1 ∧ s i 16 = 1))
theorem rest_tick (hE : playE gr hold nd t l = 0) {i : Nat} (hi : i < nd.length) (p : Nd) (hp : p = ndV nd hold i t) {k r m : Nat} (hk : k < t.toNat) (hI : InvF (runFrom hold gr.toNat nd.length l (startS nd) k).s i r) :
    ∃ r', InvF (runFrom hold gr.toNat nd.length l (startS nd) (k + 1)).s i r' ∧
      (if callB (playAsk gr hold nd t l) (cv nd i 0) hold k then 0 else en1 nd ((playRows gr hold nd t l)[k]?.getD 0) i) + enF p m (k + 1) ((runFrom hold gr.toNat nd.length l (startS nd) (k + 1)).s i 15) r' ≤ enF p (m + 1) k ((runFrom hold gr.toNat nd.length l (startS nd) k).s i 15) r := by
  have hok := playE_ok hE
  have hc := hok.c
  have hn16 := hc.n16
  have hg8 := hc.g8
  have hh := hc.h1
  have haw := hc.awk i hi
  have hza := hc.asl i hi
  obtain ⟨s, hs⟩ : ∃ s, (runFrom hold gr.toNat nd.length l (startS nd) k).s = s := ⟨_, rfl⟩
  have h3 : s i 3 = cv nd i 3 := by rw [← hs]; exact run_lo (by omega) (by omega) hi (by omega) k
  have h4 : s i 4 = cv nd i 4 := by rw [← hs]; exact run_lo (by omega) (by omega) hi (by omega) k
  have hpa : p.aw = cv nd i 1 := by rw [hp]; rfl
  have hpz : p.za = cv nd i 2 := by rw [hp]; rfl
  have hph : p.hold = hold := by rw [hp]; rfl
  -- the tokens behind the refill
  have hz15 : itN (refill1 k) nd.length (askS l k s) i 15 = refV p k (s i 15) := by
    have gen : ∀ m, i < m → itN (refill1 k) m (askS l k s) i 15 = refV p k (s i 15) := by
      intro m
      induction m with
      | zero => intro h; omega
      | succ m ih =>
        intro h
        rw [itN_succ]
        by_cases e : i = m
        · subst e
          have e2 : ∀ j, itN (refill1 k) i (askS l k s) i j = askS l k s i j := fun j =>
            itN_keep (P := fun z : PS => z i j = askS l k s i j) rfl i (fun a z ha hz => by
              unfold refill1
              split
              · rw [up_ne _ _ (.inl (by omega))]; exact hz
              · exact hz)
          have e3 : itN (refill1 k) i (askS l k s) i 3 = cv nd i 3 := by rw [e2, askS_ne _ (by decide), h3]
          have e4 : itN (refill1 k) i (askS l k s) i 4 = cv nd i 4 := by rw [e2, askS_ne _ (by decide), h4]
          have e5 : itN (refill1 k) i (askS l k s) i 15 = s i 15 := by rw [e2, askS_ne _ (by decide)]
          generalize itN (refill1 k) i (askS l k s) = y at e2 e3 e4 e5 ⊢
          unfold refV
          rw [hp]
          show refill1 k i y i 15 = if 0 < (k : Int) ∧ (k : Int) % cv nd i 4 = 0 then min (s i 15 + 1) (cv nd i 3) else s i 15
          unfold refill1
          rw [e3, e4, e5]
          split
          · rw [up_same]
          · exact e5
        · have := ih (by omega)
          unfold refill1
          split
          · rw [up_ne _ _ (.inl e)]; exact this
          · exact this
    exact gen _ hi
  have hz14 : itN (refill1 k) nd.length (askS l k s) i 14 = s i 14 := by rw [refill_ne _ (by decide), askS_ne _ (by decide)]
  have hz16 : itN (refill1 k) nd.length (askS l k s) i 16 = s i 16 := by rw [refill_ne _ (by decide), askS_ne _ (by decide)]
  have hn := noise_two hh (z := itN (refill1 k) nd.length (askS l k s)) (i := i) (picks l k [3])
  rw [hz15, hz14, hz16] at hn
  have hS15 : sndT hold gr.toNat nd.length l (startS nd) k i 15 = ((picks l k [3]).foldl (noiseX hold) (itN (refill1 k) nd.length (askS l k s))) i 15 := by
    show sendS hold gr.toNat nd.length _ _ i 15 = _
    rw [sendS_lo (.inr (by omega)) (by omega), ← hs]; rfl
  have hS14 : sndT hold gr.toNat nd.length l (startS nd) k i 14 = ((picks l k [3]).foldl (noiseX hold) (itN (refill1 k) nd.length (askS l k s))) i 14 := by
    show sendS hold gr.toNat nd.length _ _ i 14 = _
    rw [send_ne14 (by omega), ← hs]; rfl
  rw [← hS15, ← hS14] at hn
  -- the state behind the tick
  have n15 : (runFrom hold gr.toNat nd.length l (startS nd) (k + 1)).s i 15 = sndT hold gr.toNat nd.length l (startS nd) k i 15 := by rw [run_st (by omega) hi, passN_ne (.inr (.inr rfl))]
  have n14 : (runFrom hold gr.toNat nd.length l (startS nd) (k + 1)).s i 14 = if 0 < sndT hold gr.toNat nd.length l (startS nd) k i 14 then sndT hold gr.toNat nd.length l (startS nd) k i 14 - 1 else sndT hold gr.toNat nd.length l (startS nd) k i 14 := by
    rw [run_st (by omega) hi]; exact passN_tm (k := 8) i (by decide)
  have n16 : (runFrom hold gr.toNat nd.length l (startS nd) (k + 1)).s i 16 = if awB (sndT hold gr.toNat nd.length l (startS nd) k) i then 1 else 0 := by rw [run_st (by omega) hi, passN_aw]
  have hen : en1 nd ((playRows gr hold nd t l)[k]?.getD 0) i = if awB (sndT hold gr.toNat nd.length l (startS nd) k) i then cv nd i 1 else cv nd i 2 := by unfold en1; rw [play_bit hE hk hi]
  have hE1 : (if callB (playAsk gr hold nd t l) (cv nd i 0) hold k then 0 else en1 nd ((playRows gr hold nd t l)[k]?.getD 0) i) ≤ cv nd i 1 := by
    split
    · omega
    · rw [hen]; split <;> omega
  have awk_of : 0 < sndT hold gr.toNat nd.length l (startS nd) k i 14 → awB (sndT hold gr.toNat nd.length l (startS nd) k) i = true := fun h => awB_iff.2 ⟨8, by decide, h⟩
  rw [n15]
  unfold InvF at hI ⊢
  rw [hs] at hI ⊢
  rw [n14, n16]
  generalize hX : (if callB (playAsk gr hold nd t l) (cv nd i 0) hold k then 0 else en1 nd ((playRows gr hold nd t l)[k]?.getD 0) i) = X at hE1 ⊢
  rcases hn with ⟨e15, e14⟩ | ⟨q16, q15, q14, e15, e14⟩
  · rw [e15, e14]
    by_cases hp0 : 0 < s i 14
    · -- awake by an earlier noise
      have hr := hI.1 hp0
      refine ⟨r - 1, ⟨fun h => ?_, fun h => ?_⟩, ?_⟩
      · rw [if_pos hp0] at h ⊢; omega
      · rw [if_pos hp0] at h
        exact .inr ⟨by omega, by rw [awk_of (by rw [e14]; exact hp0)]; rfl⟩
      · rw [enF, if_neg (by omega), if_neg (by omega)]; omega
    · -- no noise
      have hr := hI.2 (by omega)
      refine ⟨0, ⟨fun h => absurd h (by rw [if_neg hp0]; exact hp0), fun _ => .inl rfl⟩, ?_⟩
      have hle : X ≤ p.za := by
        rw [← hX]
        cases hcb : callB (playAsk gr hold nd t l) (cv nd i 0) hold k with
        | true => simp; omega
        | false =>
          obtain ⟨lo, hlo⟩ : ∃ lo : Nat, max (0 : Int) ((k : Int) - hold + 1) = lo := ⟨_, (Int.toNat_of_nonneg (by omega)).symm⟩
          have hq : ∀ j, lo ≤ j → j ≤ k → andV ((playAsk gr hold nd t l)[j]?.getD 0) (cv nd i 0) = 0 := fun j h1 h2 => by
            refine Classical.byContradiction fun hne => ?_
            have : callB (playAsk gr hold nd t l) (cv nd i 0) hold k = true := anyB_iff.2 ⟨j, by omega, by simp [hne]; omega⟩
            rw [hcb] at this; cases this
          have hoff : awB (sndT hold gr.toNat nd.length l (startS nd) k) i = false := by
            cases ee : awB (sndT hold gr.toNat nd.length l (startS nd) k) i with
            | false => rfl
            | true =>
              obtain ⟨j, hj, hpj⟩ := awB_iff.1 ee
              by_cases e8 : j = 8
              · subst e8; rw [show 6 + 8 = 14 from rfl, e14] at hpj; omega
              · have := groups_off hE hk hi hlo hq (j := j) (by omega); omega
          rw [hen, hoff]; simp; omega
      rcases hr with rfl | ⟨rfl, _⟩
      · rw [enF, if_pos rfl]; split <;> omega
      · rw [enF, if_neg (by decide), if_pos rfl]; omega
  · -- noise wakes it
    rw [e15, e14]
    have hr : r = 0 := by
      rcases hI.2 (by omega) with h | h
      · exact h
      · rw [q16] at h; omega
    subst hr
    refine ⟨hold.toNat, ⟨fun h => ?_, fun h => ?_⟩, ?_⟩
    · rw [if_pos (by omega)] at h ⊢; omega
    · rw [if_pos (by omega)] at h
      exact .inr ⟨by omega, by rw [awk_of (by rw [e14]; omega)]; rfl⟩
    · rw [enF, if_pos rfl, if_neg (by omega), hph]; omega
theorem rest_le (hE : playE gr hold nd t l = 0) {i : Nat} (hi : i < nd.length) (p : Nd) (hp : p = ndV nd hold i t) : ∀ (m k r : Nat), k + m = t.toNat → InvF (runFrom hold gr.toNat nd.length l (startS nd) k).s i r →
    restV nd (playAsk gr hold nd t l) (playRows gr hold nd t l) hold i t.toNat ≤ restV nd (playAsk gr hold nd t l) (playRows gr hold nd t l) hold i k + enF p m k ((runFrom hold gr.toNat nd.length l (startS nd) k).s i 15) r
  | 0, k, r, hk, _ => by
    rw [show t.toNat = k by omega]
    show _ ≤ _ + (0 : Int)
    omega
  | m + 1, k, r, hk, hI => by
    obtain ⟨r', hI', hle⟩ := rest_tick hE hi p hp (m := m) (by omega) hI
    have ih := rest_le hE hi p hp m (k + 1) r' (by omega) hI'
    simp only [restV] at ih
    have e : ((k + 1 : Nat) : Int) = (k : Int) + 1 := by omega
    rw [e] at ih
    omega
theorem rest_worst (hE : playE gr hold nd t l = 0) {i : Nat} (hi : i < nd.length) : nodeE gr hold nd i t = 0 ∧ restV nd (playAsk gr hold nd t l) (playRows gr hold nd t l) hold i t.toNat ≤ worstV gr hold nd i t := by
  have hok := playE_ok hE
  have ht0 := hok.t0
  have hT : ticksE gr hold nd t = 0 := by
    unfold playE at hE
    split at hE
    · contradiction
    · rename_i h; simpa using h
  have hN := nodeE_of (i := (i : Int)) hT (by omega) (by omega)
  refine ⟨hN, ?_⟩
  have hb := hok.c.bud i hi
  have h1 := rest_le hE hi (ndV nd hold i t) rfl t.toNat 0 0 (by omega) ⟨fun h => absurd h (by show ¬ (0 : Int) < startS nd i 14; unfold startS; rw [if_neg (by omega), if_neg (by omega)]; omega), fun _ => .inl rfl⟩
  unfold worstV
  rw [if_pos hN, Int.toNat_natCast, best_enF (ndOk_of hok.c hi ht0 (by have := hok.t1; omega)) t.toNat 0 (cv nd i 3) (by omega) (by show t - 0 = _; omega) hb.1 (Int.le_refl _)]
  have e : (runFrom hold gr.toNat nd.length l (startS nd) 0).s i 15 = cv nd i 3 := rfl
  rw [e] at h1
  simp only [restV] at h1
  have e0 : ((0 : Nat) : Int) = 0 := rfl
  rw [e0] at h1
  omega
end
end
section
open Go.RowKit

/-- the same energy, as often -/
def eq2 (x y : Int × Int) : Bool := x.1 == y.1 && x.2 == y.2
def takeB (p : Nd) (t x : Int) : Bool := eq2 (add2 (bestV p (t + 1 + wkN p t) (wkV p t (refV p t x) (wkN p t)).1) ((wkV p t (refV p t x) (wkN p t)).2, 1)) (bestV p t x)
/-- the ticks of noise -/
def noiF (p : Nd) : Nat → Int → Int → List Int
  | 0, _, _ => []
  | f + 1, t, x =>
    if p.T ≤ t then [] else if refV p t x = 0 then noiF p f (t + 1) (refV p t x)
    else if takeB p t x then t :: noiF p f (t + 1 + wkN p t) (wkV p t (refV p t x) (wkN p t)).1 else noiF p f (t + 1) (refV p t x)
def noiV (p : Nd) (t x : Int) : List Int := noiF p (p.T - t).toNat t x
theorem noiF_eq (p : Nd) : ∀ (f f' : Nat) (t x : Int), (p.T - t).toNat ≤ f → (p.T - t).toNat ≤ f' → noiF p f t x = noiF p f' t x := by
  intro f
  induction f with
  | zero =>
    intro f' t x h h'
    cases f' with
    | zero => rfl
    | succ f' =>
      unfold noiF
      rw [if_pos (by omega)]
  | succ f ih =>
    intro f' t x h h'
    cases f' with
    | zero =>
      unfold noiF
      rw [if_pos (by omega)]
    | succ f' =>
      unfold noiF
      by_cases ht : p.T ≤ t
      · rw [if_pos ht, if_pos ht]
      · rw [if_neg ht, if_neg ht, ih f' (t + 1) _ (by omega) (by omega), ih f' (t + 1 + wkN p t) _ (by omega) (by omega)]
section
variable {p : Nd} {t x : Int}
theorem noi_done (h : p.T ≤ t) : noiV p t x = [] := by
  unfold noiV
  rw [show (p.T - t).toNat = 0 by omega]; rfl
theorem noi_none (h : t < p.T) (ha : refV p t x = 0) : noiV p t x = noiV p (t + 1) (refV p t x) := by
  obtain ⟨f, hf⟩ : ∃ f, (p.T - t).toNat = f + 1 := ⟨(p.T - t).toNat - 1, by omega⟩
  unfold noiV
  rw [hf]
  conv => lhs; unfold noiF
  rw [if_neg (by omega), if_pos ha, noiF_eq p f (p.T - (t + 1)).toNat (t + 1) _ (by omega) (by omega)]
theorem noi_skip (h : t < p.T) (ha : ¬ refV p t x = 0) (hk : takeB p t x = false) : noiV p t x = noiV p (t + 1) (refV p t x) := by
  obtain ⟨f, hf⟩ : ∃ f, (p.T - t).toNat = f + 1 := ⟨(p.T - t).toNat - 1, by omega⟩
  unfold noiV
  rw [hf]
  conv => lhs; unfold noiF
  rw [if_neg (by omega), if_neg ha, if_neg (by rw [hk]; decide), noiF_eq p f (p.T - (t + 1)).toNat (t + 1) _ (by omega) (by omega)]
theorem noi_take (h : t < p.T) (ha : ¬ refV p t x = 0) (hk : takeB p t x = true) : noiV p t x = t :: noiV p (t + 1 + wkN p t) (wkV p t (refV p t x) (wkN p t)).1 := by
  obtain ⟨f, hf⟩ : ∃ f, (p.T - t).toNat = f + 1 := ⟨(p.T - t).toNat - 1, by omega⟩
  unfold noiV
  rw [hf]
  conv => lhs; unfold noiF
  rw [if_neg (by omega), if_neg ha, if_pos hk, noiF_eq p f (p.T - (t + 1 + wkN p t)).toNat (t + 1 + wkN p t) _ (by omega) (by omega)]
end
def noiR (gr hold : Int) (nd : List (List Int)) (i T : Int) : List Int := if nodeE gr hold nd i T = 0 then noiV (ndV nd hold i.toNat T) 0 (cv nd i.toNat 3) else []

def Bw (B : Nat) (W : World) : Prop := B ≤ W.heap.size
theorem Bw.gr {B : Nat} {W W' : World} (h : Bw B W) (g : Gr W W') : Bw B W' := Nat.le_trans h g.size
theorem Bw.only {B : Nat} {W W' : World} {S : Nat → Prop} (h : Bw B W) (g : Only S W W') : Bw B W' := Nat.le_trans h g.size
theorem fieldsOf_eq {o : Option TypeDesc} {f g : Array Field} (h : o = some (.struct f)) (k : o = some (.struct g)) : f = g := by rw [k] at h; injection h with h; injection h with h; exact h.symm
theorem Try.hm69 : Try.prog.eqGuardType Try.prog.depth 69 = false := by kernel_rfl
theorem Try.st69 : Try.prog.stoodInHeld 69 = false := by kernel_rfl
theorem Try.fo69 : Try.prog.underlying 69 = some (.struct (Try.prog.fieldsOf 69)) := by kernel_rfl
theorem Try.eq69 (x y : Operand) (a b c d : Int) (W : World) : (do eqGuard .eql 69 x y (.agg #[.int .i64 a, .int .i64 b]) (.agg #[.int .i64 c, .int .i64 d]); binOp .eql 69 (.agg #[.int .i64 a, .int .i64 b]) (.agg #[.int .i64 c, .int .i64 d]) : Sem Value).run Try.prog W = .ok (.bool (eq2 (a, b) (c, d))) W := by
  have h1 := run_eqGuard_agg (P := Try.prog) W .eql 69 x y #[.int .i64 a, .int .i64 b] #[.int .i64 c, .int .i64 d] Try.hm69
  have h2 := run_eql_struct (P := Try.prog) W 69 #[.int .i64 a, .int .i64 b] #[.int .i64 c, .int .i64 d]
  have h3 := run_equalIn_agg (P := Try.prog) W 9999 69 #[.int .i64 a, .int .i64 b] #[.int .i64 c, .int .i64 d] Try.fo69 Try.st69
  have h4 := fieldsOf_eq Try.fo69 Try.underlying69
  have s3 : Try.prog.cellsOf 3 = 1 := by kernel_rfl
  rw [Sem.run_bind, h1, Result.andThen_ok, h2, h3, h4]
  simp [Op.eqFields, part, go_sem, eq2]
  by_cases e1 : a = c <;> by_cases e2 : b = d <;> simp [e1, e2]

set_option maxRecDepth 100000 in
set_option maxHeartbeats 1000000 in
theorem noises_any (na : Option Addr) (n nc : Nat) (gr hold node T : Int) (nd : List (List Int)) (w : World) (hnd : StAt w 5 na n nd) :
  Calls Try.prog 33 #[.agg #[.int .i64 gr, .int .i64 hold, .slice na n nc], .int .i64 node, .int .i64 T] w fun e w' => ∃ a m c, e = .returned (.tuple #[.slice a m c, .int .i64 (nodeE gr hold nd node T)]) ∧ Ints w' a m (noiR gr hold nd node T) ∧ Gr w w' := by
 have G := Gr.refl w
 have hnd0 := hnd
 have hlen := hnd.len
 have hlt := hnd.lt
 refine Y.calls 66 Try.func33 rfl rfl ?_
 intro ac F0
 have F : Fr ac 66 [(0, .agg #[.int .i64 gr, .int .i64 hold, .slice na n nc]), (1, .int .i64 node), (2, .int .i64 T)] := F0.sub _
 clear F0
 refine Y.seq ?_
 refine Y.lit (by kernel_rfl) ?_
 refine Y.pval F (X.w0 rfl) rfl (X.box rfl (F.ev 0 (.agg #[.int .i64 gr, .int .i64 hold, .slice na n nc])) X.bx) ?_
 clear F ac
 intro ac F
 have g := Gr.alloc w (.cells #[.int .i64 gr, .int .i64 hold, .slice na n nc] 24)
 have hb := heap_alloc_new w (.cells #[.int .i64 gr, .int .i64 hold, .slice na n nc] 24)
 have hbl : w.heap.size < (w.alloc (.cells #[.int .i64 gr, .int .i64 hold, .slice na n nc] 24)).heap.size := by simp
 have hC2 : RCells (w.alloc (.cells #[.int .i64 gr, .int .i64 hold, .slice na n nc] 24)) [(⟨w.heap.size, 0, none⟩, .int .i64 gr), (⟨w.heap.size, 1, none⟩, .int .i64 hold), (⟨w.heap.size, 2, none⟩, .slice na n nc)] := (RCells.nil w).box (b := w.heap.size) #[.int .i64 gr, .int .i64 hold, .slice na n nc] 24 rfl
 generalize w.alloc (.cells #[.int .i64 gr, .int .i64 hold, .slice na n nc] 24) = w3 at *
 replace G := G.trans g
 have hC := hC2
 clear hC2
 replace hnd := hnd.gr g
 clear g hb hbl
 refine Y.pval F (X.w0 rfl) rfl (X.assign rfl (X.kc (.slice none 0 0) rfl)) ?_
 clear F ac
 intro ac F
 refine Y.pval F (X.w0 rfl) rfl (X.assign rfl (X.kc (.int .i64 0) rfl)) ?_
 clear F ac
 intro ac F
 refine Y.nil ?_
 replace F : Fr ac 66 [(0, .agg #[.int .i64 gr, .int .i64 hold, .slice na n nc]), (1, .int .i64 node), (2, .int .i64 T), (3, .pointer (some ⟨w.heap.size, 0, none⟩)), (6, .slice none 0 0), (7, .int .i64 0)] := F.sub _
 refine X.thenN ?_
 refine Y.seq ?_
 refine Y.seq ?_
 refine Y.lit (by kernel_rfl) ?_
 refine Y.pval F (X.w0 rfl) rfl (X.load rfl (F.ev 3 (.pointer (some ⟨w.heap.size, 0, none⟩))) (X.ldN (Try.agg24 _) (Try.siz24 _) (Y.atz (⟨w.heap.size, 0, none⟩) (Y.AtFrom.cons (hC.at 0 rfl) (Y.AtFrom.cons (hC.at 1 rfl) (Y.AtFrom.cons (hC.at 2 rfl) (Y.AtFrom.nil _ _ _))))))) ?_
 clear F ac
 intro ac F
 refine Y.pval F (X.w0 rfl) rfl (X.move rfl (F.ev 1 (.int .i64 node))) ?_
 clear F ac
 intro ac F
 refine Y.pval F (X.w0 rfl) rfl (X.move rfl (F.ev 2 (.int .i64 T))) ?_
 clear F ac
 intro ac F
 refine Y.pcall F (X.w0 rfl) rfl (X.enter (F := 46) rfl (X.kc (.func (.func 46) #[] #[]) rfl) (X.a3 (F.ev 15 (.agg #[.int .i64 gr, .int .i64 hold, .slice na n nc])) (F.ev 16 (.int .i64 node)) (F.ev 17 (.int .i64 T))) (enters_of Try.func46 (by kernel_rfl) rfl _)) (chkNode_any na n nc gr hold node T nd w3 hnd) ?_
 clear F ac
 rintro e w4 ⟨rfl, g⟩
 refine ⟨_, rfl, ?_⟩
 intro ac F
 replace G := G.trans g
 replace hC := hC.gr g
 replace hnd := hnd.gr g
 clear g
 refine Y.pval F (X.w0 rfl) rfl (X.assign rfl (F.ev 18 (.int .i64 (nodeE gr hold nd node T)))) ?_
 clear F ac
 intro ac F
 refine Y.nil ?_
 replace F : Fr ac 66 [(0, .agg #[.int .i64 gr, .int .i64 hold, .slice na n nc]), (1, .int .i64 node), (2, .int .i64 T), (3, .pointer (some ⟨w.heap.size, 0, none⟩)), (6, .slice none 0 0), (7, .int .i64 0), (8, .int .i64 (nodeE gr hold nd node T))] := F.sub _
 refine X.thenN ?_
 refine Y.seq ?_
 refine Y.lit (by kernel_rfl) ?_
 refine Y.pval F (X.w0 rfl) rfl (X.move rfl (F.ev 8 (.int .i64 (nodeE gr hold nd node T)))) ?_
 clear F ac
 intro ac F
 refine Y.pval F (X.w0 rfl) rfl (X.binop rfl (F.ev 19 (.int .i64 (nodeE gr hold nd node T))) (X.kc (.int .i64 0) rfl) (X.neqI Try.underlying26 rfl)) ?_
 clear F ac
 intro ac F
 refine Y.nil ?_
 replace F : Fr ac 66 [(0, .agg #[.int .i64 gr, .int .i64 hold, .slice na n nc]), (1, .int .i64 node), (2, .int .i64 T), (3, .pointer (some ⟨w.heap.size, 0, none⟩)), (6, .slice none 0 0), (7, .int .i64 0), (8, .int .i64 (nodeE gr hold nd node T)), (20, .bool ((nodeE gr hold nd node T : Int) != 0))] := F.sub _
 refine X.thenN ?_
 cases h5 : ((nodeE gr hold nd node T : Int) != 0) with
 | false =>
  try rw [h5] at F
  have h5p : (nodeE gr hold nd node T : Int) = 0 := by simpa using h5
  have hE : nodeE gr hold nd node T = 0 := by simpa using h5p
  have hno_ := nodeE_ok hE
  have hc := (ticksE_ok hno_.1).1
  have hT : 0 ≤ T ∧ T ≤ 1001 := by have := (ticksE_ok hno_.1).2; omega
  obtain ⟨i, rfl⟩ : ∃ i : Nat, node = i := ⟨node.toNat, by omega⟩
  have hin : i < n := by omega
  refine Y.condF (F.ev 20 (.bool false)) ?_
  refine Y.skip ?_
  refine X.thenN ?_
  refine Y.seq ?_
  refine Y.lit (by kernel_rfl) ?_
  refine Y.pval F (X.w0 rfl) rfl (X.load rfl (F.ev 3 (.pointer (some ⟨w.heap.size, 0, none⟩))) (X.ldN (Try.agg24 _) (Try.siz24 _) (Y.atz (⟨w.heap.size, 0, none⟩) (Y.AtFrom.cons (hC.at 0 rfl) (Y.AtFrom.cons (hC.at 1 rfl) (Y.AtFrom.cons (hC.at 2 rfl) (Y.AtFrom.nil _ _ _))))))) ?_
  clear F ac
  intro ac F
  refine Y.pval F (X.w0 rfl) rfl (X.move rfl (F.ev 1 (.int .i64 i))) ?_
  clear F ac
  intro ac F
  refine Y.pval F (X.w0 rfl) rfl (X.move rfl (F.ev 2 (.int .i64 T))) ?_
  clear F ac
  intro ac F
  have hcb : w.heap.size < w4.heap.size := lt_cell (hC.at 0 rfl)
  have hgsw := G.size
  have hno := ndOk_of hc (i := i) (T := T) (by omega) hT.1 hT.2
  refine Y.pcall F (X.w0 rfl) rfl (X.enter (F := 47) rfl (X.kc (.func (.func 47) #[] #[]) rfl) (X.a3 (F.ev 22 (.agg #[.int .i64 gr, .int .i64 hold, .slice na n nc])) (F.ev 23 (.int .i64 i)) (F.ev 24 (.int .i64 T))) (enters_of Try.func47 (by kernel_rfl) rfl _)) (newp_any na n nc hold i T gr nd w4 hnd (by omega)) ?_
  clear F ac
  rintro e w6 ⟨bq, bm, rfl, hq, hM, hbq, hbmB, hbm, g⟩
  refine ⟨_, rfl, ?_⟩
  intro ac F
  have h := hno
  have hpT : (ndV nd hold i T).T = T := rfl
  have hpb : (ndV nd hold i T).bu = cv nd i 3 := rfl
  generalize hpe : ndV nd hold i T = p at *
  generalize cv nd i 0 = gq at *
  have ha0 := h.a0
  have ha1 := h.a1
  have ha2 := h.a2
  have hb0 := h.b0
  have hb1 := h.b1
  have hr0 := h.r0
  have hr1 := h.r1
  have hh0 := h.h0
  have hh1 := h.h1
  have ht0_ := h.t0
  have ht1_ := h.t1
  replace G := G.trans g
  replace hC := hC.gr g
  replace hnd := hnd.gr g
  clear g
  have hC : RCells w6 [] := RCells.nil _
  have hgw1 := G.size
  have hqlt := hq.lt
  have hMlt := hM.lt
  refine Y.pval F (X.w0 rfl) rfl (X.assign rfl (F.ev 25 (.pointer (some ⟨bq, 0, none⟩)))) ?_
  clear F ac
  intro ac F
  refine Y.nil ?_
  replace F : Fr ac 66 [(0, .agg #[.int .i64 gr, .int .i64 hold, .slice na n nc]), (1, .int .i64 i), (2, .int .i64 T), (3, .pointer (some ⟨w.heap.size, 0, none⟩)), (6, .slice none 0 0), (7, .int .i64 0), (8, .int .i64 (nodeE gr hold nd i T)), (9, .pointer (some ⟨bq, 0, none⟩)), (20, .bool false)] := F.sub _
  refine X.thenN ?_
  refine Y.seq ?_
  refine Y.seq ?_
  refine Y.lit (by kernel_rfl) ?_
  refine Y.pval F (X.w0 rfl) rfl (X.move rfl (F.ev 9 (.pointer (some ⟨bq, 0, none⟩)))) ?_
  clear F ac
  intro ac F
  refine Y.pcall F (X.w0 rfl) rfl (X.enter (F := 49) rfl (X.kc (.func (.func 49) #[] #[]) rfl) (X.a1 (F.ev 26 (.pointer (some ⟨bq, 0, none⟩)))) (enters_of Try.func49 (by kernel_rfl) rfl _)) (start_any bq bm gq p w6 hq) ?_
  clear F ac
  rintro e w7 ⟨rfl, g⟩
  refine ⟨_, rfl, ?_⟩
  intro ac F
  replace G := G.trans g
  replace hq := hq.gr g
  replace hM := hM.gr g
  clear g
  refine Y.pval F (X.w0 rfl) rfl (Y.al rfl (Try.new72 _)) ?_
  clear F ac
  intro ac F
  have hgshV8 := G.size
  have hqm9 : bq < w7.heap.size ∧ bm < w7.heap.size := ⟨hq.lt, hM.lt⟩
  have g := Gr.alloc w7 (.cells #[.int .i64 0, .int .i64 0] 72)
  have hb := heap_alloc_new w7 (.cells #[.int .i64 0, .int .i64 0] 72)
  have hbl : w7.heap.size < (w7.alloc (.cells #[.int .i64 0, .int .i64 0] 72)).heap.size := by simp
  generalize w7.alloc (.cells #[.int .i64 0, .int .i64 0] 72) = w10 at *
  replace G := G.trans g
  replace hq := hq.gr g
  replace hM := hM.gr g
  have hV8 := ownP_2 hb
  clear g hb hbl
  obtain ⟨w11, hrun, hS2, hon⟩ := hV8.st2 (P := Try.prog) (t := 72) (x := .int .i64 0) (y := .int .i64 p.bu) (fun W => Try.siz72 W) rfl rfl
  refine Y.punit F (X.w0 rfl) rfl (X.store rfl (F.ev 10 (.pointer (some ⟨w7.heap.size, 0, none⟩))) (F.ev 27 (.agg #[.int .i64 0, .int .i64 p.bu])) hrun) ?_
  clear F ac hrun
  intro ac F
  replace G := Y.Only.up G hon (by omega)
  replace hq := hq.only hon (by show ¬ _ = _; omega)
  replace hM := hM.only hon (by show ¬ _ = _; omega)
  have hC : RCells w11 [] :=  (RCells.nil _)
  replace hV8 := hS2
  clear hS2 hon
  refine Y.nil ?_
  replace F : Fr ac 66 [(0, .agg #[.int .i64 gr, .int .i64 hold, .slice na n nc]), (1, .int .i64 i), (2, .int .i64 T), (3, .pointer (some ⟨w.heap.size, 0, none⟩)), (6, .slice none 0 0), (7, .int .i64 0), (8, .int .i64 (nodeE gr hold nd i T)), (9, .pointer (some ⟨bq, 0, none⟩)), (10, .pointer (some ⟨w7.heap.size, 0, none⟩)), (20, .bool false)] := F.sub _
  refine X.thenN ?_
  refine Y.block ?_
  have hsz0 : bq < w11.heap.size ∧ bm < w11.heap.size := ⟨hq.lt, hM.lt⟩
  obtain ⟨B0, hB0⟩ : ∃ B0, w11.heap.size = B0 := ⟨_, rfl⟩
  have hgB := G.size
  rw [hB0] at hsz0 hgB
  refine Y.loop (fun me_ ac wr => ∃ (t x : Int) (sb : Nat) (v : Value) (D : List Int), me_ = (p.T - t).toNat ∧ (0 ≤ t ∧ t ≤ p.T ∧ (D.length : Int) ≤ t) ∧ (0 ≤ x ∧ x ≤ p.bu) ∧ D ++ noiV p t x = noiV p 0 p.bu ∧ (w.heap.size ≤ sb ∧ ¬ sb = bq ∧ ¬ sb = bm ∧ ∀ b, v.ownBlock = some b → ¬ b = sb) ∧ Gr w wr ∧ Bw B0 wr ∧ Pq wr bq gq p.aw p.za p.bu p.re p.hold p.T bm ∧ Memo wr bm (gdV p) ∧ OwnP wr sb 2 (VL [.int .i64 t, .int .i64 x]) ∧ OwnR wr B0 3 1 v D.length (D.map (Value.int .i64)) ∧ Fr ac 66 [(0, .agg #[.int .i64 gr, .int .i64 hold, .slice na n nc]), (1, .int .i64 i), (2, .int .i64 T), (3, .pointer (some ⟨w.heap.size, 0, none⟩)), (6, v), (7, .int .i64 0), (8, .int .i64 (nodeE gr hold nd i T)), (9, .pointer (some ⟨bq, 0, none⟩)), (10, .pointer (some ⟨sb, 0, none⟩)), (20, .bool false)]) _ ⟨0, p.bu, _, _, [], rfl, ⟨Int.le_refl _, by omega, by simp⟩, ⟨by omega, Int.le_refl _⟩, rfl, ⟨by omega, by omega, by omega, fun b e => by simp [Value.ownBlock] at e⟩, G, Nat.le_of_eq hB0.symm, hq, hM, hV8, OwnR.nil _ _ _ _, F.sub _⟩ ?_
  clear F hC G hq hM hV8 ac hqlt hMlt
  intro me_ ac w12 hI
  obtain ⟨t, x, sb, v, D, rfl, ht, hx, hD, hsb, G, hBw, hq, hM, hV, hO, F⟩ := hI
  obtain ⟨hsw, hsq, hsm, hOs⟩ := hsb
  have hC : RCells w12 [] := RCells.nil _
  have hsl := hV.lt
  refine Y.seq ?_
  refine Y.seq ?_
  refine Y.lit (by kernel_rfl) ?_
  refine Y.pval F (X.w0 rfl) rfl (X.field rfl (F.ev 10 (.pointer (some ⟨sb, 0, none⟩))) (X.fld Try.underlying72 rfl (Try.siz3 _) rfl rfl)) ?_
  clear F ac
  intro ac F
  have hC : RCells w12 [(⟨sb, 0, none⟩, .int .i64 t)] := (RCells.cons (hV.cell (k := 0) (by decide)) (RCells.nil _))
  refine Y.pval F (X.w0 rfl) rfl (X.load rfl (F.ev 28 (.pointer (some ⟨sb, 0, none⟩))) (X.ld1 (Try.agg3 _) (hC.at 0 rfl))) ?_
  clear F ac
  intro ac F
  refine Y.pval F (X.w0 rfl) rfl (X.move rfl (F.ev 2 (.int .i64 T))) ?_
  clear F ac
  intro ac F
  refine Y.pval F (X.w0 rfl) rfl (X.binop rfl (F.ev 29 (.int .i64 t)) (F.ev 30 (.int .i64 T)) (X.lssI Try.underlying3 rfl)) ?_
  clear F ac
  intro ac F
  refine Y.nil ?_
  replace F : Fr ac 66 [(0, .agg #[.int .i64 gr, .int .i64 hold, .slice na n nc]), (1, .int .i64 i), (2, .int .i64 T), (3, .pointer (some ⟨w.heap.size, 0, none⟩)), (6, v), (7, .int .i64 0), (8, .int .i64 (nodeE gr hold nd i T)), (9, .pointer (some ⟨bq, 0, none⟩)), (10, .pointer (some ⟨sb, 0, none⟩)), (20, .bool false), (31, .bool (decide ((t : Int) < T)))] := F.sub _
  refine X.thenN ?_
  cases h13 : decide ((t : Int) < T) with
  | false =>
   try rw [h13] at F
   have h13p : ¬ ((t : Int) < T) := of_decide_eq_false h13
   refine Y.condF (F.ev 31 (.bool false)) ?_
   refine Y.exit ?_
   refine X.thenX ?_
   refine X.thenX ?_
   refine X.blockX ?_
   refine X.thenN ?_
   refine Y.seq ?_
   refine Y.lit (by kernel_rfl) ?_
   refine Y.pval F (X.w0 rfl) rfl (X.move rfl (F.ev 6 (v))) ?_
   clear F ac
   intro ac F
   refine Y.pval F (X.w0 rfl) rfl (X.assign rfl (F.ev 65 (v))) ?_
   clear F ac
   intro ac F
   refine Y.pval F (X.w0 rfl) rfl (X.assign rfl (X.kc (.int .i64 0) rfl)) ?_
   clear F ac
   intro ac F
   refine Y.nil ?_
   replace F : Fr ac 66 [(0, .agg #[.int .i64 gr, .int .i64 hold, .slice na n nc]), (1, .int .i64 i), (2, .int .i64 T), (3, .pointer (some ⟨w.heap.size, 0, none⟩)), (6, v), (7, .int .i64 0), (8, .int .i64 (nodeE gr hold nd i T)), (9, .pointer (some ⟨bq, 0, none⟩)), (10, .pointer (some ⟨sb, 0, none⟩)), (20, .bool false), (31, .bool false)] := F.sub _
   refine X.thenN ?_
   refine Y.ret ?_
   rw [noi_done (show p.T ≤ t by omega), List.append_nil] at hD
   obtain ⟨a9, c9, rfl, hI9⟩ := hO.ints (by omega)
   rw [hD] at hI9
   have hDl : D.length = (noiV p 0 p.bu).length := by rw [hD]
   exact Y.ret0 (v := .tuple #[.slice a9 D.length c9, .int .i64 0]) F (Y.rs2 F rfl (by kernel_rfl) (by kernel_rfl)) ⟨a9, _, c9, by rw [hE], by unfold noiR; rw [if_pos hE, Int.toNat_natCast, hpe, ← hpb, hDl]; exact hI9, G⟩
  | true =>
   try rw [h13] at F
   have h13p : ((t : Int) < T) := of_decide_eq_true h13
   have htT : t < p.T := by omega
   have hrb := refV_bd h (t := t) hx.1 hx.2
   have hbs := bestV_bd h (t := (t : Int) + 1) (x := refV p t x) (by omega) hrb.1 hrb.2
   have hbt := bestV_bd h (t := t) (x := x) (by omega) hx.1 hx.2
   refine Y.condT (F.ev 31 (.bool true)) ?_
   refine Y.skip ?_
   refine X.thenN ?_
   refine Y.seq ?_
   refine Y.block ?_
   refine Y.seq ?_
   refine Y.lit (by kernel_rfl) ?_
   refine Y.pval F (X.w0 rfl) rfl (X.move rfl (F.ev 9 (.pointer (some ⟨bq, 0, none⟩)))) ?_
   clear F ac
   intro ac F
   replace hC : RCells w12 [(⟨sb, 0, none⟩, .int .i64 t), (⟨sb, 1, none⟩, .int .i64 x)] := hC.append ((RCells.cons (hV.cell (k := 1) (by decide)) (RCells.nil _)))
   refine Y.pval F (X.w0 rfl) rfl (X.load rfl (F.ev 10 (.pointer (some ⟨sb, 0, none⟩))) (X.ldN (Try.agg72 _) (Try.siz72 _) (Y.atz (⟨sb, 0, none⟩) (Y.AtFrom.cons (hC.at 0 rfl) (Y.AtFrom.cons (hC.at 1 rfl) (Y.AtFrom.nil _ _ _)))))) ?_
   clear F ac
   intro ac F
   refine Y.pcall F (X.w0 rfl) rfl (X.enter (F := 48) rfl (X.kc (.func (.func 48) #[] #[]) rfl) (X.a2 (F.ev 32 (.pointer (some ⟨bq, 0, none⟩))) (F.ev 33 (.agg #[.int .i64 t, .int .i64 x]))) (enters_of Try.func48 (by kernel_rfl) rfl _)) (best_any bq bm gq p h hbm 10000 t x w12 (by omega) ⟨by omega, by omega⟩ ⟨by omega, by omega⟩ hq hM) ?_
   clear F ac
   rintro e w14 ⟨rfl, hon, hM2⟩
   refine ⟨_, rfl, ?_⟩
   intro ac F
   replace G := Y.Only.up G hon (by omega)
   replace hq := hq.only hon (by show ¬ bq = bm; omega)
   replace hM := hM2
   replace hV := hV.only hon (by show ¬ sb = bm; omega)
   replace hO := hO.only hon (fun b e h => by have h1 := (hO.ge e).1; omega)
   replace hBw := hBw.only hon
   replace hC : RCells w14 [(⟨sb, 0, none⟩, .int .i64 t), (⟨sb, 1, none⟩, .int .i64 x)] := (RCells.cons (hon.cell (hC.at 0 rfl) (by show ¬ sb = bm; omega)) (RCells.cons (hon.cell (hC.at 1 rfl) (by show ¬ sb = bm; omega)) (RCells.nil _)))
   clear hon
   refine Y.pval F (X.w0 rfl) rfl (Y.al rfl (Try.new69 _)) ?_
   clear F ac
   intro ac F
   have hgshV15 := G.size
   have hq16 : sb < w14.heap.size := hV.lt
   have hq17 : sb < w14.heap.size := lt_cell (hC.at 0 rfl)
   have hqm18 : bq < w14.heap.size ∧ bm < w14.heap.size := ⟨hq.lt, hM.lt⟩
   have hOq19 : ∀ b, v.ownBlock = some b → b < w14.heap.size := fun b e => (hO.ge e).2
   have g := Gr.alloc w14 (.cells #[.int .i64 0, .int .i64 0] 69)
   have hb := heap_alloc_new w14 (.cells #[.int .i64 0, .int .i64 0] 69)
   have hbl : w14.heap.size < (w14.alloc (.cells #[.int .i64 0, .int .i64 0] 69)).heap.size := by simp
   generalize w14.alloc (.cells #[.int .i64 0, .int .i64 0] 69) = w20 at *
   replace G := G.trans g
   replace hC := hC.gr g
   replace hq := hq.gr g
   replace hM := hM.gr g
   replace hV := hV.gr g
   replace hO := hO.gr g
   replace hBw := hBw.gr g
   have hV15 := ownP_2 hb
   clear g hb hbl
   obtain ⟨w21, hrun, hS2, hon⟩ := hV15.st2 (P := Try.prog) (t := 69) (x := .int .i64 ((bestV p t x).1)) (y := .int .i64 ((bestV p t x).2)) (fun W => Try.siz69 W) rfl rfl
   refine Y.punit F (X.w0 rfl) rfl (X.store rfl (F.ev 11 (.pointer (some ⟨w14.heap.size, 0, none⟩))) (F.ev 34 (.agg #[.int .i64 ((bestV p t x).1), .int .i64 ((bestV p t x).2)])) hrun) ?_
   clear F ac hrun
   intro ac F
   replace G := Y.Only.up G hon (by omega)
   replace hq := hq.only hon (by show ¬ _ = _; omega)
   replace hM := hM.only hon (by show ¬ _ = _; omega)
   replace hV := hV.only hon (by show ¬ _ = _; omega)
   replace hO := hO.only hon (fun b e h => by have h1 := (hO.ge e).1; have h2 := hOs _ e; have hOq19_ := hOq19 _ e; omega)
   replace hBw := hBw.only hon
   replace hC : RCells w21 [(⟨sb, 0, none⟩, .int .i64 t), (⟨sb, 1, none⟩, .int .i64 x)] := (RCells.cons (hon.cell (hC.at 0 rfl) (by show ¬ sb = w14.heap.size; omega)) (RCells.cons (hon.cell (hC.at 1 rfl) (by show ¬ sb = w14.heap.size; omega)) (RCells.nil _)))
   replace hV15 := hS2
   clear hS2 hon
   refine Y.nil ?_
   replace F : Fr ac 66 [(0, .agg #[.int .i64 gr, .int .i64 hold, .slice na n nc]), (1, .int .i64 i), (2, .int .i64 T), (3, .pointer (some ⟨w.heap.size, 0, none⟩)), (6, v), (7, .int .i64 0), (8, .int .i64 (nodeE gr hold nd i T)), (9, .pointer (some ⟨bq, 0, none⟩)), (10, .pointer (some ⟨sb, 0, none⟩)), (11, .pointer (some ⟨w14.heap.size, 0, none⟩)), (20, .bool false), (31, .bool true)] := F.sub _
   refine X.thenN ?_
   refine Y.seq ?_
   refine Y.seq ?_
   refine Y.lit (by kernel_rfl) ?_
   refine Y.pval F (X.w0 rfl) rfl (X.move rfl (F.ev 9 (.pointer (some ⟨bq, 0, none⟩)))) ?_
   clear F ac
   intro ac F
   refine Y.pval F (X.w0 rfl) rfl (X.load rfl (F.ev 10 (.pointer (some ⟨sb, 0, none⟩))) (X.ldN (Try.agg72 _) (Try.siz72 _) (Y.atz (⟨sb, 0, none⟩) (Y.AtFrom.cons (hC.at 0 rfl) (Y.AtFrom.cons (hC.at 1 rfl) (Y.AtFrom.nil _ _ _)))))) ?_
   clear F ac
   intro ac F
   by_cases hwk : refV p t x = 0
   ·have hwk := hwk
    refine Y.pcall F (X.w0 rfl) rfl (X.enter (F := 61) rfl (X.kc (.func (.func 61) #[] #[]) rfl) (X.a2 (F.ev 36 (.pointer (some ⟨bq, 0, none⟩))) (F.ev 37 (.agg #[.int .i64 t, .int .i64 x]))) (enters_of Try.func61 (by kernel_rfl) rfl _)) ((wake_any bq bm gq p t x w21 hq h (by omega) (by omega)).mono (fun e w h => by rw [if_pos hwk] at h; exact h)) ?_
    clear F ac
    rintro e w23 ⟨rfl, g⟩
    refine ⟨_, rfl, ?_⟩
    intro ac F
    replace G := G.trans g
    replace hC := hC.gr g
    replace hq := hq.gr g
    replace hM := hM.gr g
    replace hV := hV.gr g
    replace hO := hO.gr g
    replace hBw := hBw.gr g
    replace hV15 := hV15.gr g
    clear g
    refine Y.pval F (X.w0 rfl) rfl (X.move rfl (F.ev 38 (.tuple #[.agg #[.int .i64 t, .int .i64 x], .agg #[.int .i64 0, .int .i64 0], .bool false]))) ?_
    clear F ac
    intro ac F
    refine Y.pval F (X.w0 rfl) rfl (X.extract rfl (F.ev 35 (.tuple #[.agg #[.int .i64 t, .int .i64 x], .agg #[.int .i64 0, .int .i64 0], .bool false])) rfl) ?_
    clear F ac
    intro ac F
    refine Y.pval F (X.w0 rfl) rfl (X.extract rfl (F.ev 35 (.tuple #[.agg #[.int .i64 t, .int .i64 x], .agg #[.int .i64 0, .int .i64 0], .bool false])) rfl) ?_
    clear F ac
    intro ac F
    refine Y.pval F (X.w0 rfl) rfl (X.extract rfl (F.ev 35 (.tuple #[.agg #[.int .i64 t, .int .i64 x], .agg #[.int .i64 0, .int .i64 0], .bool false])) rfl) ?_
    clear F ac
    intro ac F
    refine Y.pval F (X.w0 rfl) rfl (Y.al rfl (Try.new72 _)) ?_
    clear F ac
    intro ac F
    have hgshV24 := G.size
    have hq25 : sb < w23.heap.size := hV.lt
    have hq26 : w14.heap.size < w23.heap.size := hV15.lt
    have hq27 : sb < w23.heap.size := lt_cell (hC.at 0 rfl)
    have hqm28 : bq < w23.heap.size ∧ bm < w23.heap.size := ⟨hq.lt, hM.lt⟩
    have hOq29 : ∀ b, v.ownBlock = some b → b < w23.heap.size := fun b e => (hO.ge e).2
    have g := Gr.alloc w23 (.cells #[.int .i64 0, .int .i64 0] 72)
    have hb := heap_alloc_new w23 (.cells #[.int .i64 0, .int .i64 0] 72)
    have hbl : w23.heap.size < (w23.alloc (.cells #[.int .i64 0, .int .i64 0] 72)).heap.size := by simp
    generalize w23.alloc (.cells #[.int .i64 0, .int .i64 0] 72) = w30 at *
    replace G := G.trans g
    replace hC := hC.gr g
    replace hq := hq.gr g
    replace hM := hM.gr g
    replace hV := hV.gr g
    replace hO := hO.gr g
    replace hBw := hBw.gr g
    replace hV15 := hV15.gr g
    have hV24 := ownP_2 hb
    clear g hb hbl
    refine Y.pval F (X.w0 rfl) rfl (Y.al rfl (Try.new69 _)) ?_
    clear F ac
    intro ac F
    have hgshV31 := G.size
    have hq32 : sb < w30.heap.size := hV.lt
    have hq33 : w14.heap.size < w30.heap.size := hV15.lt
    have hq34 : w23.heap.size < w30.heap.size := hV24.lt
    have hq35 : sb < w30.heap.size := lt_cell (hC.at 0 rfl)
    have hqm36 : bq < w30.heap.size ∧ bm < w30.heap.size := ⟨hq.lt, hM.lt⟩
    have hOq37 : ∀ b, v.ownBlock = some b → b < w30.heap.size := fun b e => (hO.ge e).2
    have g := Gr.alloc w30 (.cells #[.int .i64 0, .int .i64 0] 69)
    have hb := heap_alloc_new w30 (.cells #[.int .i64 0, .int .i64 0] 69)
    have hbl : w30.heap.size < (w30.alloc (.cells #[.int .i64 0, .int .i64 0] 69)).heap.size := by simp
    generalize w30.alloc (.cells #[.int .i64 0, .int .i64 0] 69) = w38 at *
    replace G := G.trans g
    replace hC := hC.gr g
    replace hq := hq.gr g
    replace hM := hM.gr g
    replace hV := hV.gr g
    replace hO := hO.gr g
    replace hBw := hBw.gr g
    replace hV15 := hV15.gr g
    replace hV24 := hV24.gr g
    have hV31 := ownP_2 hb
    clear g hb hbl
    obtain ⟨w39, hrun, hS2, hon⟩ := hV24.st2 (P := Try.prog) (t := 72) (x := .int .i64 t) (y := .int .i64 x) (fun W => Try.siz72 W) rfl rfl
    refine Y.punit F (X.w0 rfl) rfl (X.store rfl (F.ev 12 (.pointer (some ⟨w23.heap.size, 0, none⟩))) (F.ev 39 (.agg #[.int .i64 t, .int .i64 x])) hrun) ?_
    clear F ac hrun
    intro ac F
    replace G := Y.Only.up G hon (by omega)
    replace hq := hq.only hon (by show ¬ _ = _; omega)
    replace hM := hM.only hon (by show ¬ _ = _; omega)
    replace hV := hV.only hon (by show ¬ _ = _; omega)
    replace hO := hO.only hon (fun b e h => by have h1 := (hO.ge e).1; have h2 := hOs _ e; have hOq19_ := hOq19 _ e; have hOq29_ := hOq29 _ e; have hOq37_ := hOq37 _ e; omega)
    replace hBw := hBw.only hon
    replace hV15 := hV15.only hon (by show ¬ _ = _; omega)
    replace hV31 := hV31.only hon (by show ¬ _ = _; omega)
    replace hC : RCells w39 [(⟨sb, 0, none⟩, .int .i64 t), (⟨sb, 1, none⟩, .int .i64 x)] := (RCells.cons (hon.cell (hC.at 0 rfl) (by show ¬ sb = w23.heap.size; omega)) (RCells.cons (hon.cell (hC.at 1 rfl) (by show ¬ sb = w23.heap.size; omega)) (RCells.nil _)))
    replace hV24 := hS2
    clear hS2 hon
    obtain ⟨w40, hrun, hS2, hon⟩ := hV31.st2 (P := Try.prog) (t := 69) (x := .int .i64 0) (y := .int .i64 0) (fun W => Try.siz69 W) rfl rfl
    refine Y.punit F (X.w0 rfl) rfl (X.store rfl (F.ev 13 (.pointer (some ⟨w30.heap.size, 0, none⟩))) (F.ev 40 (.agg #[.int .i64 0, .int .i64 0])) hrun) ?_
    clear F ac hrun
    intro ac F
    replace G := Y.Only.up G hon (by omega)
    replace hq := hq.only hon (by show ¬ _ = _; omega)
    replace hM := hM.only hon (by show ¬ _ = _; omega)
    replace hV := hV.only hon (by show ¬ _ = _; omega)
    replace hO := hO.only hon (fun b e h => by have h1 := (hO.ge e).1; have h2 := hOs _ e; have hOq19_ := hOq19 _ e; have hOq29_ := hOq29 _ e; have hOq37_ := hOq37 _ e; omega)
    replace hBw := hBw.only hon
    replace hV15 := hV15.only hon (by show ¬ _ = _; omega)
    replace hV24 := hV24.only hon (by show ¬ _ = _; omega)
    replace hC : RCells w40 [(⟨sb, 0, none⟩, .int .i64 t), (⟨sb, 1, none⟩, .int .i64 x)] := (RCells.cons (hon.cell (hC.at 0 rfl) (by show ¬ sb = w30.heap.size; omega)) (RCells.cons (hon.cell (hC.at 1 rfl) (by show ¬ sb = w30.heap.size; omega)) (RCells.nil _)))
    replace hV31 := hS2
    clear hS2 hon
    refine Y.pval F (X.w0 rfl) rfl (X.assign rfl (F.ev 41 (.bool false))) ?_
    clear F ac
    intro ac F
    refine Y.nil ?_
    replace F : Fr ac 66 [(0, .agg #[.int .i64 gr, .int .i64 hold, .slice na n nc]), (1, .int .i64 i), (2, .int .i64 T), (3, .pointer (some ⟨w.heap.size, 0, none⟩)), (6, v), (7, .int .i64 0), (8, .int .i64 (nodeE gr hold nd i T)), (9, .pointer (some ⟨bq, 0, none⟩)), (10, .pointer (some ⟨sb, 0, none⟩)), (11, .pointer (some ⟨w14.heap.size, 0, none⟩)), (12, .pointer (some ⟨w23.heap.size, 0, none⟩)), (13, .pointer (some ⟨w30.heap.size, 0, none⟩)), (14, .bool false), (20, .bool false), (31, .bool true)] := F.sub _
    refine X.thenN ?_
    refine Y.seq ?_
    refine Y.region F [some (.bool false), some (.bool false), none, none, none, none, none, none, none, some (.bool false)] [] rfl ⟨by kernel_rfl, of_decide_eq_true (by kernel_rfl), by kernel_rfl, by kernel_rfl, by kernel_rfl⟩ ⟨?_, ?_, ?_, ?_, ?_, ?_, ?_, ?_, ?_, ?_, trivial⟩ ?_
    ·intro ac done u W Sx hR
     exact X.val (X.w0 rfl) rfl (X.move rfl (Sx.ev 14 (.bool false))) (hR.step (Gr.refl _) rfl)
    ·intro ac done u W Sx hR
     exact X.val (X.w0 rfl) rfl (X.move rfl (Sx.ev 42 (.bool false))) (hR.step (Gr.refl _) rfl)
    ·intro ac done u W Sx hR
     exact X.skip (X.w2 rfl (Sx.yl 1 43 false (by kernel_rfl) rfl rfl) rfl) rfl (hR.skip rfl)
    ·intro ac done u W Sx hR
     exact X.skip (X.w2 rfl (Sx.yl 1 43 false (by kernel_rfl) rfl rfl) rfl) rfl (hR.skip rfl)
    ·intro ac done u W Sx hR
     exact X.skip (X.w2 rfl (Sx.yl 1 43 false (by kernel_rfl) rfl rfl) rfl) rfl (hR.skip rfl)
    ·intro ac done u W Sx hR
     exact X.skip (X.w2 rfl (Sx.yl 1 43 false (by kernel_rfl) rfl rfl) rfl) rfl (hR.skip rfl)
    ·intro ac done u W Sx hR
     exact X.skip (X.w2 rfl (Sx.yl 1 43 false (by kernel_rfl) rfl rfl) rfl) rfl (hR.skip rfl)
    ·intro ac done u W Sx hR
     exact X.skip (X.w2 rfl (Sx.yl 1 43 false (by kernel_rfl) rfl rfl) rfl) rfl (hR.skip rfl)
    ·intro ac done u W Sx hR
     exact X.skip (X.w2 rfl (Sx.yl 1 43 false (by kernel_rfl) rfl rfl) rfl) rfl (hR.skip rfl)
    ·intro ac done u W Sx hR
     exact X.val (X.w0 rfl) rfl (X.pickF rfl (Sx.ev 43 (.bool false)) (X.kc (.bool false) rfl)) (hR.step (Gr.refl _) rfl)
    intro ac u w41 hs hd hl ho hR
    have g : Gr w40 w41 := hR.1
    replace F : Fr ac 66 [(0, .agg #[.int .i64 gr, .int .i64 hold, .slice na n nc]), (1, .int .i64 i), (2, .int .i64 T), (3, .pointer (some ⟨w.heap.size, 0, none⟩)), (6, v), (7, .int .i64 0), (8, .int .i64 (nodeE gr hold nd i T)), (9, .pointer (some ⟨bq, 0, none⟩)), (10, .pointer (some ⟨sb, 0, none⟩)), (11, .pointer (some ⟨w14.heap.size, 0, none⟩)), (12, .pointer (some ⟨w23.heap.size, 0, none⟩)), (13, .pointer (some ⟨w30.heap.size, 0, none⟩)), (14, .bool false), (20, .bool false), (31, .bool true), (51, .bool false)] := X.fr hs hd hl _ (by kernel_rfl)
    clear hs hd hl ho hR
    replace G := G.trans g
    replace hC := hC.gr g
    replace hq := hq.gr g
    replace hM := hM.gr g
    replace hV := hV.gr g
    replace hO := hO.gr g
    replace hBw := hBw.gr g
    replace hV15 := hV15.gr g
    replace hV24 := hV24.gr g
    replace hV31 := hV31.gr g
    clear g
    refine X.thenN ?_
    refine Y.condF (F.ev 51 (.bool false)) ?_
    refine Y.skip ?_
    refine X.thenN ?_
    refine Y.lit (by kernel_rfl) ?_
    refine Y.pval F (X.w0 rfl) rfl (X.move rfl (F.ev 9 (.pointer (some ⟨bq, 0, none⟩)))) ?_
    clear F ac
    intro ac F
    refine Y.pval F (X.w0 rfl) rfl (X.load rfl (F.ev 10 (.pointer (some ⟨sb, 0, none⟩))) (X.ldN (Try.agg72 _) (Try.siz72 _) (Y.atz (⟨sb, 0, none⟩) (Y.AtFrom.cons (hC.at 0 rfl) (Y.AtFrom.cons (hC.at 1 rfl) (Y.AtFrom.nil _ _ _)))))) ?_
    clear F ac
    intro ac F
    refine Y.pcall F (X.w0 rfl) rfl (X.enter (F := 63) rfl (X.kc (.func (.func 63) #[] #[]) rfl) (X.a2 (F.ev 59 (.pointer (some ⟨bq, 0, none⟩))) (F.ev 60 (.agg #[.int .i64 t, .int .i64 x]))) (enters_of Try.func63 (by kernel_rfl) rfl _)) (stay_any bq bm gq p t x w41 hq h (by omega) (by omega)) ?_
    clear F ac
    rintro e w42 ⟨rfl, g⟩
    refine ⟨_, rfl, ?_⟩
    intro ac F
    replace G := G.trans g
    replace hC := hC.gr g
    replace hq := hq.gr g
    replace hM := hM.gr g
    replace hV := hV.gr g
    replace hO := hO.gr g
    replace hBw := hBw.gr g
    replace hV15 := hV15.gr g
    replace hV24 := hV24.gr g
    replace hV31 := hV31.gr g
    clear g
    refine Y.pval F (X.w0 rfl) rfl (X.move rfl (F.ev 61 (.tuple #[.agg #[.int .i64 ((t : Int) + 1), .int .i64 (refV p t x)], .agg #[.int .i64 p.za, .int .i64 0]]))) ?_
    clear F ac
    intro ac F
    refine Y.pval F (X.w0 rfl) rfl (X.extract rfl (F.ev 58 (.tuple #[.agg #[.int .i64 ((t : Int) + 1), .int .i64 (refV p t x)], .agg #[.int .i64 p.za, .int .i64 0]])) rfl) ?_
    clear F ac
    intro ac F
    refine Y.pval F (X.w0 rfl) rfl (X.extract rfl (F.ev 58 (.tuple #[.agg #[.int .i64 ((t : Int) + 1), .int .i64 (refV p t x)], .agg #[.int .i64 p.za, .int .i64 0]])) rfl) ?_
    clear F ac
    intro ac F
    obtain ⟨w43, hrun, hS2, hon⟩ := hV.st2 (P := Try.prog) (t := 72) (x := .int .i64 ((t : Int) + 1)) (y := .int .i64 (refV p t x)) (fun W => Try.siz72 W) rfl rfl
    refine Y.punit F (X.w0 rfl) rfl (X.store rfl (F.ev 10 (.pointer (some ⟨sb, 0, none⟩))) (F.ev 62 (.agg #[.int .i64 ((t : Int) + 1), .int .i64 (refV p t x)])) hrun) ?_
    clear F ac hrun
    intro ac F
    replace G := Y.Only.up G hon (by omega)
    replace hq := hq.only hon (by show ¬ _ = _; omega)
    replace hM := hM.only hon (by show ¬ _ = _; omega)
    replace hO := hO.only hon (fun b e h => by have h1 := (hO.ge e).1; have h2 := hOs _ e; have hOq19_ := hOq19 _ e; have hOq29_ := hOq29 _ e; have hOq37_ := hOq37 _ e; omega)
    replace hBw := hBw.only hon
    replace hV15 := hV15.only hon (by show ¬ _ = _; omega)
    replace hV24 := hV24.only hon (by show ¬ _ = _; omega)
    replace hV31 := hV31.only hon (by show ¬ _ = _; omega)
    replace hC : RCells w43 [] :=  (RCells.nil _)
    replace hV := hS2
    clear hS2 hon
    refine Y.nil ?_
    replace F : Fr ac 66 [(0, .agg #[.int .i64 gr, .int .i64 hold, .slice na n nc]), (1, .int .i64 i), (2, .int .i64 T), (3, .pointer (some ⟨w.heap.size, 0, none⟩)), (6, v), (7, .int .i64 0), (8, .int .i64 (nodeE gr hold nd i T)), (9, .pointer (some ⟨bq, 0, none⟩)), (10, .pointer (some ⟨sb, 0, none⟩)), (11, .pointer (some ⟨w14.heap.size, 0, none⟩)), (12, .pointer (some ⟨w23.heap.size, 0, none⟩)), (13, .pointer (some ⟨w30.heap.size, 0, none⟩)), (14, .bool false), (20, .bool false), (31, .bool true), (51, .bool false)] := F.sub _
    refine X.blockN ?_
    refine X.thenN ?_
    refine Y.seq ?_
    refine Y.lit (by kernel_rfl) ?_
    have hC : RCells w43 [(⟨sb, 0, none⟩, .int .i64 ((t : Int) + 1))] := (RCells.cons (hV.cell (k := 0) (by decide)) (RCells.nil _))
    replace hC : RCells w43 [(⟨sb, 0, none⟩, .int .i64 ((t : Int) + 1)), (⟨sb, 1, none⟩, .int .i64 (refV p t x))] := hC.append ((RCells.cons (hV.cell (k := 1) (by decide)) (RCells.nil _)))
    refine Y.pval F (X.w0 rfl) rfl (X.load rfl (F.ev 10 (.pointer (some ⟨sb, 0, none⟩))) (X.ldN (Try.agg72 _) (Try.siz72 _) (Y.atz (⟨sb, 0, none⟩) (Y.AtFrom.cons (hC.at 0 rfl) (Y.AtFrom.cons (hC.at 1 rfl) (Y.AtFrom.nil _ _ _)))))) ?_
    clear F ac
    intro ac F
    refine Y.nil ?_
    replace F : Fr ac 66 [(0, .agg #[.int .i64 gr, .int .i64 hold, .slice na n nc]), (1, .int .i64 i), (2, .int .i64 T), (3, .pointer (some ⟨w.heap.size, 0, none⟩)), (6, v), (7, .int .i64 0), (8, .int .i64 (nodeE gr hold nd i T)), (9, .pointer (some ⟨bq, 0, none⟩)), (10, .pointer (some ⟨sb, 0, none⟩)), (11, .pointer (some ⟨w14.heap.size, 0, none⟩)), (12, .pointer (some ⟨w23.heap.size, 0, none⟩)), (13, .pointer (some ⟨w30.heap.size, 0, none⟩)), (14, .bool false), (20, .bool false), (31, .bool true), (51, .bool false), (64, .agg #[.int .i64 ((t : Int) + 1), .int .i64 (refV p t x)])] := F.sub _
    refine X.thenN ?_
    refine Y.lit (by kernel_rfl) ?_
    refine Y.pval F (X.w0 rfl) rfl (Y.al rfl (Try.new72 _)) ?_
    clear F ac
    intro ac F
    have hgshV44 := G.size
    have hq45 : sb < w43.heap.size := hV.lt
    have hq46 : w14.heap.size < w43.heap.size := hV15.lt
    have hq47 : w23.heap.size < w43.heap.size := hV24.lt
    have hq48 : w30.heap.size < w43.heap.size := hV31.lt
    have hq49 : sb < w43.heap.size := lt_cell (hC.at 0 rfl)
    have hqm50 : bq < w43.heap.size ∧ bm < w43.heap.size := ⟨hq.lt, hM.lt⟩
    have hOq51 : ∀ b, v.ownBlock = some b → b < w43.heap.size := fun b e => (hO.ge e).2
    have g := Gr.alloc w43 (.cells #[.int .i64 0, .int .i64 0] 72)
    have hb := heap_alloc_new w43 (.cells #[.int .i64 0, .int .i64 0] 72)
    have hbl : w43.heap.size < (w43.alloc (.cells #[.int .i64 0, .int .i64 0] 72)).heap.size := by simp
    generalize w43.alloc (.cells #[.int .i64 0, .int .i64 0] 72) = w52 at *
    replace G := G.trans g
    replace hC := hC.gr g
    replace hq := hq.gr g
    replace hM := hM.gr g
    replace hV := hV.gr g
    replace hO := hO.gr g
    replace hBw := hBw.gr g
    replace hV15 := hV15.gr g
    replace hV24 := hV24.gr g
    replace hV31 := hV31.gr g
    have hV44 := ownP_2 hb
    clear g hb hbl
    obtain ⟨w53, hrun, hS2, hon⟩ := hV44.st2 (P := Try.prog) (t := 72) (x := .int .i64 ((t : Int) + 1)) (y := .int .i64 (refV p t x)) (fun W => Try.siz72 W) rfl rfl
    refine Y.punit F (X.w0 rfl) rfl (X.store rfl (F.ev 10 (.pointer (some ⟨w43.heap.size, 0, none⟩))) (F.ev 64 (.agg #[.int .i64 ((t : Int) + 1), .int .i64 (refV p t x)])) hrun) ?_
    clear F ac hrun
    intro ac F
    replace G := Y.Only.up G hon (by omega)
    replace hq := hq.only hon (by show ¬ _ = _; omega)
    replace hM := hM.only hon (by show ¬ _ = _; omega)
    replace hV := hV.only hon (by show ¬ _ = _; omega)
    replace hO := hO.only hon (fun b e h => by have h1 := (hO.ge e).1; have h2 := hOs _ e; have hOq19_ := hOq19 _ e; have hOq29_ := hOq29 _ e; have hOq37_ := hOq37 _ e; have hOq51_ := hOq51 _ e; omega)
    replace hBw := hBw.only hon
    replace hV15 := hV15.only hon (by show ¬ _ = _; omega)
    replace hV24 := hV24.only hon (by show ¬ _ = _; omega)
    replace hV31 := hV31.only hon (by show ¬ _ = _; omega)
    replace hC : RCells w53 [(⟨sb, 0, none⟩, .int .i64 ((t : Int) + 1)), (⟨sb, 1, none⟩, .int .i64 (refV p t x))] := (RCells.cons (hon.cell (hC.at 0 rfl) (by show ¬ sb = w43.heap.size; omega)) (RCells.cons (hon.cell (hC.at 1 rfl) (by show ¬ sb = w43.heap.size; omega)) (RCells.nil _)))
    replace hV44 := hS2
    clear hS2 hon
    refine Y.nil ?_
    replace F : Fr ac 66 [(0, .agg #[.int .i64 gr, .int .i64 hold, .slice na n nc]), (1, .int .i64 i), (2, .int .i64 T), (3, .pointer (some ⟨w.heap.size, 0, none⟩)), (6, v), (7, .int .i64 0), (8, .int .i64 (nodeE gr hold nd i T)), (9, .pointer (some ⟨bq, 0, none⟩)), (10, .pointer (some ⟨w43.heap.size, 0, none⟩)), (11, .pointer (some ⟨w14.heap.size, 0, none⟩)), (12, .pointer (some ⟨w23.heap.size, 0, none⟩)), (13, .pointer (some ⟨w30.heap.size, 0, none⟩)), (14, .bool false), (20, .bool false), (31, .bool true), (51, .bool false), (64, .agg #[.int .i64 ((t : Int) + 1), .int .i64 (refV p t x)])] := F.sub _
    refine X.thenN ?_
    refine ⟨_, ?_, (t : Int) + 1, refV p t x, _, _, D, rfl, ⟨by omega, by omega, by omega⟩, ⟨by omega, by omega⟩, by rw [← hD, noi_none htT hwk], ⟨by omega, by omega, by omega, fun b e => by have := hOq51 b e; omega⟩, G, hBw, hq, hM, hV44, hO, F.sub _⟩
    omega
   ·have hwk := hwk
    have hwb := wkV_bd h (t := t) (a := refV p t x) (by omega) hrb.2 (wkN p t)
    have hwn := wkN_bd h ht.1 htT
    have hwh := wkN_hold hh0 t
    have hby := bestV_bd h (t := (t : Int) + 1 + ((wkN p t : Nat) : Int)) (x := (wkV p t (refV p t x) (wkN p t)).1) (by omega) hwb.1.1 hwb.1.2
    refine Y.pcall F (X.w0 rfl) rfl (X.enter (F := 61) rfl (X.kc (.func (.func 61) #[] #[]) rfl) (X.a2 (F.ev 36 (.pointer (some ⟨bq, 0, none⟩))) (F.ev 37 (.agg #[.int .i64 t, .int .i64 x]))) (enters_of Try.func61 (by kernel_rfl) rfl _)) ((wake_any bq bm gq p t x w21 hq h (by omega) (by omega)).mono (fun e w h => by rw [if_neg hwk] at h; exact h)) ?_
    clear F ac
    rintro e w54 ⟨rfl, g⟩
    refine ⟨_, rfl, ?_⟩
    intro ac F
    replace G := G.trans g
    replace hC := hC.gr g
    replace hq := hq.gr g
    replace hM := hM.gr g
    replace hV := hV.gr g
    replace hO := hO.gr g
    replace hBw := hBw.gr g
    replace hV15 := hV15.gr g
    clear g
    refine Y.pval F (X.w0 rfl) rfl (X.move rfl (F.ev 38 (.tuple #[.agg #[.int .i64 ((t : Int) + 1 + ((wkN p t : Nat) : Int)), .int .i64 ((wkV p t (refV p t x) (wkN p t)).1)], .agg #[.int .i64 ((wkV p t (refV p t x) (wkN p t)).2), .int .i64 1], .bool true]))) ?_
    clear F ac
    intro ac F
    refine Y.pval F (X.w0 rfl) rfl (X.extract rfl (F.ev 35 (.tuple #[.agg #[.int .i64 ((t : Int) + 1 + ((wkN p t : Nat) : Int)), .int .i64 ((wkV p t (refV p t x) (wkN p t)).1)], .agg #[.int .i64 ((wkV p t (refV p t x) (wkN p t)).2), .int .i64 1], .bool true])) rfl) ?_
    clear F ac
    intro ac F
    refine Y.pval F (X.w0 rfl) rfl (X.extract rfl (F.ev 35 (.tuple #[.agg #[.int .i64 ((t : Int) + 1 + ((wkN p t : Nat) : Int)), .int .i64 ((wkV p t (refV p t x) (wkN p t)).1)], .agg #[.int .i64 ((wkV p t (refV p t x) (wkN p t)).2), .int .i64 1], .bool true])) rfl) ?_
    clear F ac
    intro ac F
    refine Y.pval F (X.w0 rfl) rfl (X.extract rfl (F.ev 35 (.tuple #[.agg #[.int .i64 ((t : Int) + 1 + ((wkN p t : Nat) : Int)), .int .i64 ((wkV p t (refV p t x) (wkN p t)).1)], .agg #[.int .i64 ((wkV p t (refV p t x) (wkN p t)).2), .int .i64 1], .bool true])) rfl) ?_
    clear F ac
    intro ac F
    refine Y.pval F (X.w0 rfl) rfl (Y.al rfl (Try.new72 _)) ?_
    clear F ac
    intro ac F
    have hgshV55 := G.size
    have hq56 : sb < w54.heap.size := hV.lt
    have hq57 : w14.heap.size < w54.heap.size := hV15.lt
    have hq58 : sb < w54.heap.size := lt_cell (hC.at 0 rfl)
    have hqm59 : bq < w54.heap.size ∧ bm < w54.heap.size := ⟨hq.lt, hM.lt⟩
    have hOq60 : ∀ b, v.ownBlock = some b → b < w54.heap.size := fun b e => (hO.ge e).2
    have g := Gr.alloc w54 (.cells #[.int .i64 0, .int .i64 0] 72)
    have hb := heap_alloc_new w54 (.cells #[.int .i64 0, .int .i64 0] 72)
    have hbl : w54.heap.size < (w54.alloc (.cells #[.int .i64 0, .int .i64 0] 72)).heap.size := by simp
    generalize w54.alloc (.cells #[.int .i64 0, .int .i64 0] 72) = w61 at *
    replace G := G.trans g
    replace hC := hC.gr g
    replace hq := hq.gr g
    replace hM := hM.gr g
    replace hV := hV.gr g
    replace hO := hO.gr g
    replace hBw := hBw.gr g
    replace hV15 := hV15.gr g
    have hV55 := ownP_2 hb
    clear g hb hbl
    refine Y.pval F (X.w0 rfl) rfl (Y.al rfl (Try.new69 _)) ?_
    clear F ac
    intro ac F
    have hgshV62 := G.size
    have hq63 : sb < w61.heap.size := hV.lt
    have hq64 : w14.heap.size < w61.heap.size := hV15.lt
    have hq65 : w54.heap.size < w61.heap.size := hV55.lt
    have hq66 : sb < w61.heap.size := lt_cell (hC.at 0 rfl)
    have hqm67 : bq < w61.heap.size ∧ bm < w61.heap.size := ⟨hq.lt, hM.lt⟩
    have hOq68 : ∀ b, v.ownBlock = some b → b < w61.heap.size := fun b e => (hO.ge e).2
    have g := Gr.alloc w61 (.cells #[.int .i64 0, .int .i64 0] 69)
    have hb := heap_alloc_new w61 (.cells #[.int .i64 0, .int .i64 0] 69)
    have hbl : w61.heap.size < (w61.alloc (.cells #[.int .i64 0, .int .i64 0] 69)).heap.size := by simp
    generalize w61.alloc (.cells #[.int .i64 0, .int .i64 0] 69) = w69 at *
    replace G := G.trans g
    replace hC := hC.gr g
    replace hq := hq.gr g
    replace hM := hM.gr g
    replace hV := hV.gr g
    replace hO := hO.gr g
    replace hBw := hBw.gr g
    replace hV15 := hV15.gr g
    replace hV55 := hV55.gr g
    have hV62 := ownP_2 hb
    clear g hb hbl
    obtain ⟨w70, hrun, hS2, hon⟩ := hV55.st2 (P := Try.prog) (t := 72) (x := .int .i64 ((t : Int) + 1 + ((wkN p t : Nat) : Int))) (y := .int .i64 ((wkV p t (refV p t x) (wkN p t)).1)) (fun W => Try.siz72 W) rfl rfl
    refine Y.punit F (X.w0 rfl) rfl (X.store rfl (F.ev 12 (.pointer (some ⟨w54.heap.size, 0, none⟩))) (F.ev 39 (.agg #[.int .i64 ((t : Int) + 1 + ((wkN p t : Nat) : Int)), .int .i64 ((wkV p t (refV p t x) (wkN p t)).1)])) hrun) ?_
    clear F ac hrun
    intro ac F
    replace G := Y.Only.up G hon (by omega)
    replace hq := hq.only hon (by show ¬ _ = _; omega)
    replace hM := hM.only hon (by show ¬ _ = _; omega)
    replace hV := hV.only hon (by show ¬ _ = _; omega)
    replace hO := hO.only hon (fun b e h => by have h1 := (hO.ge e).1; have h2 := hOs _ e; have hOq19_ := hOq19 _ e; have hOq60_ := hOq60 _ e; have hOq68_ := hOq68 _ e; omega)
    replace hBw := hBw.only hon
    replace hV15 := hV15.only hon (by show ¬ _ = _; omega)
    replace hV62 := hV62.only hon (by show ¬ _ = _; omega)
    replace hC : RCells w70 [(⟨sb, 0, none⟩, .int .i64 t), (⟨sb, 1, none⟩, .int .i64 x)] := (RCells.cons (hon.cell (hC.at 0 rfl) (by show ¬ sb = w54.heap.size; omega)) (RCells.cons (hon.cell (hC.at 1 rfl) (by show ¬ sb = w54.heap.size; omega)) (RCells.nil _)))
    replace hV55 := hS2
    clear hS2 hon
    obtain ⟨w71, hrun, hS2, hon⟩ := hV62.st2 (P := Try.prog) (t := 69) (x := .int .i64 ((wkV p t (refV p t x) (wkN p t)).2)) (y := .int .i64 1) (fun W => Try.siz69 W) rfl rfl
    refine Y.punit F (X.w0 rfl) rfl (X.store rfl (F.ev 13 (.pointer (some ⟨w61.heap.size, 0, none⟩))) (F.ev 40 (.agg #[.int .i64 ((wkV p t (refV p t x) (wkN p t)).2), .int .i64 1])) hrun) ?_
    clear F ac hrun
    intro ac F
    replace G := Y.Only.up G hon (by omega)
    replace hq := hq.only hon (by show ¬ _ = _; omega)
    replace hM := hM.only hon (by show ¬ _ = _; omega)
    replace hV := hV.only hon (by show ¬ _ = _; omega)
    replace hO := hO.only hon (fun b e h => by have h1 := (hO.ge e).1; have h2 := hOs _ e; have hOq19_ := hOq19 _ e; have hOq60_ := hOq60 _ e; have hOq68_ := hOq68 _ e; omega)
    replace hBw := hBw.only hon
    replace hV15 := hV15.only hon (by show ¬ _ = _; omega)
    replace hV55 := hV55.only hon (by show ¬ _ = _; omega)
    replace hC : RCells w71 [(⟨sb, 0, none⟩, .int .i64 t), (⟨sb, 1, none⟩, .int .i64 x)] := (RCells.cons (hon.cell (hC.at 0 rfl) (by show ¬ sb = w61.heap.size; omega)) (RCells.cons (hon.cell (hC.at 1 rfl) (by show ¬ sb = w61.heap.size; omega)) (RCells.nil _)))
    replace hV62 := hS2
    clear hS2 hon
    refine Y.pval F (X.w0 rfl) rfl (X.assign rfl (F.ev 41 (.bool true))) ?_
    clear F ac
    intro ac F
    refine Y.nil ?_
    replace F : Fr ac 66 [(0, .agg #[.int .i64 gr, .int .i64 hold, .slice na n nc]), (1, .int .i64 i), (2, .int .i64 T), (3, .pointer (some ⟨w.heap.size, 0, none⟩)), (6, v), (7, .int .i64 0), (8, .int .i64 (nodeE gr hold nd i T)), (9, .pointer (some ⟨bq, 0, none⟩)), (10, .pointer (some ⟨sb, 0, none⟩)), (11, .pointer (some ⟨w14.heap.size, 0, none⟩)), (12, .pointer (some ⟨w54.heap.size, 0, none⟩)), (13, .pointer (some ⟨w61.heap.size, 0, none⟩)), (14, .bool true), (20, .bool false), (31, .bool true)] := F.sub _
    refine X.thenN ?_
    refine Y.seq ?_
    replace hC : RCells w71 [(⟨sb, 0, none⟩, .int .i64 t), (⟨sb, 1, none⟩, .int .i64 x), (⟨w54.heap.size, 0, none⟩, .int .i64 ((t : Int) + 1 + ((wkN p t : Nat) : Int)))] := hC.append ((RCells.cons (hV55.cell (k := 0) (by decide)) (RCells.nil _)))
    replace hC : RCells w71 [(⟨sb, 0, none⟩, .int .i64 t), (⟨sb, 1, none⟩, .int .i64 x), (⟨w54.heap.size, 0, none⟩, .int .i64 ((t : Int) + 1 + ((wkN p t : Nat) : Int))), (⟨w54.heap.size, 1, none⟩, .int .i64 ((wkV p t (refV p t x) (wkN p t)).1))] := hC.append ((RCells.cons (hV55.cell (k := 1) (by decide)) (RCells.nil _)))
    replace hC : RCells w71 [(⟨sb, 0, none⟩, .int .i64 t), (⟨sb, 1, none⟩, .int .i64 x), (⟨w54.heap.size, 0, none⟩, .int .i64 ((t : Int) + 1 + ((wkN p t : Nat) : Int))), (⟨w54.heap.size, 1, none⟩, .int .i64 ((wkV p t (refV p t x) (wkN p t)).1)), (⟨w61.heap.size, 0, none⟩, .int .i64 ((wkV p t (refV p t x) (wkN p t)).2))] := hC.append ((RCells.cons (hV62.cell (k := 0) (by decide)) (RCells.nil _)))
    replace hC : RCells w71 [(⟨sb, 0, none⟩, .int .i64 t), (⟨sb, 1, none⟩, .int .i64 x), (⟨w54.heap.size, 0, none⟩, .int .i64 ((t : Int) + 1 + ((wkN p t : Nat) : Int))), (⟨w54.heap.size, 1, none⟩, .int .i64 ((wkV p t (refV p t x) (wkN p t)).1)), (⟨w61.heap.size, 0, none⟩, .int .i64 ((wkV p t (refV p t x) (wkN p t)).2)), (⟨w61.heap.size, 1, none⟩, .int .i64 1)] := hC.append ((RCells.cons (hV62.cell (k := 1) (by decide)) (RCells.nil _)))
    replace hC : RCells w71 [(⟨sb, 0, none⟩, .int .i64 t), (⟨sb, 1, none⟩, .int .i64 x), (⟨w54.heap.size, 0, none⟩, .int .i64 ((t : Int) + 1 + ((wkN p t : Nat) : Int))), (⟨w54.heap.size, 1, none⟩, .int .i64 ((wkV p t (refV p t x) (wkN p t)).1)), (⟨w61.heap.size, 0, none⟩, .int .i64 ((wkV p t (refV p t x) (wkN p t)).2)), (⟨w61.heap.size, 1, none⟩, .int .i64 1), (⟨w14.heap.size, 0, none⟩, .int .i64 ((bestV p t x).1))] := hC.append ((RCells.cons (hV15.cell (k := 0) (by decide)) (RCells.nil _)))
    replace hC : RCells w71 [(⟨sb, 0, none⟩, .int .i64 t), (⟨sb, 1, none⟩, .int .i64 x), (⟨w54.heap.size, 0, none⟩, .int .i64 ((t : Int) + 1 + ((wkN p t : Nat) : Int))), (⟨w54.heap.size, 1, none⟩, .int .i64 ((wkV p t (refV p t x) (wkN p t)).1)), (⟨w61.heap.size, 0, none⟩, .int .i64 ((wkV p t (refV p t x) (wkN p t)).2)), (⟨w61.heap.size, 1, none⟩, .int .i64 1), (⟨w14.heap.size, 0, none⟩, .int .i64 ((bestV p t x).1)), (⟨w14.heap.size, 1, none⟩, .int .i64 ((bestV p t x).2))] := hC.append ((RCells.cons (hV15.cell (k := 1) (by decide)) (RCells.nil _)))
    have hmlt := hM.lt
    refine region_xi F [some (.bool true), some (.bool true), some (.pointer (some ⟨bq, 0, none⟩)), some (.agg #[.int .i64 ((t : Int) + 1 + ((wkN p t : Nat) : Int)), .int .i64 ((wkV p t (refV p t x) (wkN p t)).1)]), some (.agg #[.int .i64 ((bestV p ((t : Int) + 1 + ((wkN p t : Nat) : Int)) ((wkV p t (refV p t x) (wkN p t)).1)).1), .int .i64 ((bestV p ((t : Int) + 1 + ((wkN p t : Nat) : Int)) ((wkV p t (refV p t x) (wkN p t)).1)).2)]), some (.agg #[.int .i64 ((wkV p t (refV p t x) (wkN p t)).2), .int .i64 1]), some (.agg #[.int .i64 (((bestV p ((t : Int) + 1 + ((wkN p t : Nat) : Int)) ((wkV p t (refV p t x) (wkN p t)).1)).1 : Int) + ((wkV p t (refV p t x) (wkN p t)).2)), .int .i64 (((bestV p ((t : Int) + 1 + ((wkN p t : Nat) : Int)) ((wkV p t (refV p t x) (wkN p t)).1)).2 : Int) + 1)]), some (.agg #[.int .i64 ((bestV p t x).1), .int .i64 ((bestV p t x).2)]), some (.bool (eq2 (((bestV p ((t : Int) + 1 + ((wkN p t : Nat) : Int)) ((wkV p t (refV p t x) (wkN p t)).1)).1 : Int) + ((wkV p t (refV p t x) (wkN p t)).2), ((bestV p ((t : Int) + 1 + ((wkN p t : Nat) : Int)) ((wkV p t (refV p t x) (wkN p t)).1)).2 : Int) + 1) ((bestV p t x).1, (bestV p t x).2))), some (.bool (eq2 (((bestV p ((t : Int) + 1 + ((wkN p t : Nat) : Int)) ((wkV p t (refV p t x) (wkN p t)).1)).1 : Int) + ((wkV p t (refV p t x) (wkN p t)).2), ((bestV p ((t : Int) + 1 + ((wkN p t : Nat) : Int)) ((wkV p t (refV p t x) (wkN p t)).1)).2 : Int) + 1) ((bestV p t x).1, (bestV p t x).2)))] (RTk w71 (fun b => b = bm) (fun W => Memo W bm (gdV p)) 100 101 (VL []) (VL [])) rfl ⟨by kernel_rfl, of_decide_eq_true (by kernel_rfl), by kernel_rfl, by kernel_rfl, by kernel_rfl⟩ (fun _ => ⟨RTk.start (Gr.refl _) hM, RTk.start (Gr.drew _) (hM.gr (Gr.drew _))⟩) ⟨?_, ?_, ?_, ?_, ?_, ?_, ?_, ?_, ?_, ?_, trivial⟩ ?_
    ·intro ac done u W Sx hR
     exact X.val (X.w0 rfl) rfl (X.move rfl (Sx.ev 14 (.bool true))) (hR.quiet (by decide))
    ·intro ac done u W Sx hR
     exact X.val (X.w0 rfl) rfl (X.move rfl (Sx.ev 42 (.bool true))) (hR.quiet (by decide))
    ·intro ac done u W Sx hR
     exact X.val (X.w1 rfl (Sx.yl 1 43 true (by kernel_rfl) rfl rfl)) rfl (X.move rfl (Sx.ev 9 (.pointer (some ⟨bq, 0, none⟩)))) (hR.quiet (by decide))
    ·intro ac done u W Sx hR
     exact X.val (X.w1 rfl (Sx.yl 1 43 true (by kernel_rfl) rfl rfl)) rfl (X.load rfl (Sx.ev 12 (.pointer (some ⟨w54.heap.size, 0, none⟩))) (X.ldN (Try.agg72 _) (Try.siz72 _) (Y.atz (⟨w54.heap.size, 0, none⟩) (Y.AtFrom.cons (hR.o.cell (hC.at 2 rfl) (by show ¬ w54.heap.size = bm; omega)) (Y.AtFrom.cons (hR.o.cell (hC.at 3 rfl) (by show ¬ w54.heap.size = bm; omega)) (Y.AtFrom.nil _ _ _)))))) (hR.quiet (by decide))
    ·intro ac done u W Sx hR
     refine X.call (X.w1 rfl (Sx.yl 1 43 true (by kernel_rfl) rfl rfl)) (X.enter (F := 48) rfl (X.kc (.func (.func 48) #[] #[]) rfl) (X.a2 (Sx.ev 44 (.pointer (some ⟨bq, 0, none⟩))) (Sx.ev 45 (.agg #[.int .i64 ((t : Int) + 1 + ((wkN p t : Nat) : Int)), .int .i64 ((wkV p t (refV p t x) (wkN p t)).1)]))) (enters_of Try.func48 (by kernel_rfl) rfl _)) (best_any bq bm gq p h hbm 10000 ((t : Int) + 1 + ((wkN p t : Nat) : Int)) ((wkV p t (refV p t x) (wkN p t)).1) W (by omega) ⟨by omega, by omega⟩ ⟨by omega, by omega⟩ (hq.only hR.o (by show ¬ bq = bm; omega)) hR.m) ?_
     rintro e W2 ⟨rfl, hon, hM2⟩
     exact ⟨_, rfl, X.kn rfl, hR.call (by decide) (fun b e => by subst e; exact hmlt) hon hM2⟩
    ·intro ac done u W Sx hR
     exact X.val (X.w1 rfl (Sx.yl 1 43 true (by kernel_rfl) rfl rfl)) rfl (X.load rfl (Sx.ev 13 (.pointer (some ⟨w61.heap.size, 0, none⟩))) (X.ldN (Try.agg69 _) (Try.siz69 _) (Y.atz (⟨w61.heap.size, 0, none⟩) (Y.AtFrom.cons (hR.o.cell (hC.at 4 rfl) (by show ¬ w61.heap.size = bm; omega)) (Y.AtFrom.cons (hR.o.cell (hC.at 5 rfl) (by show ¬ w61.heap.size = bm; omega)) (Y.AtFrom.nil _ _ _)))))) (hR.quiet (by decide))
    ·intro ac done u W Sx hR
     refine X.call (X.w1 rfl (Sx.yl 1 43 true (by kernel_rfl) rfl rfl)) (X.enter (F := 62) rfl (X.kc (.func (.func 62) #[] #[]) rfl) (X.a2 (Sx.ev 46 (.agg #[.int .i64 ((bestV p ((t : Int) + 1 + ((wkN p t : Nat) : Int)) ((wkV p t (refV p t x) (wkN p t)).1)).1), .int .i64 ((bestV p ((t : Int) + 1 + ((wkN p t : Nat) : Int)) ((wkV p t (refV p t x) (wkN p t)).1)).2)])) (Sx.ev 47 (.agg #[.int .i64 ((wkV p t (refV p t x) (wkN p t)).2), .int .i64 1]))) (enters_of Try.func62 (by kernel_rfl) rfl _)) (and_any ((bestV p ((t : Int) + 1 + ((wkN p t : Nat) : Int)) ((wkV p t (refV p t x) (wkN p t)).1)).1) ((bestV p ((t : Int) + 1 + ((wkN p t : Nat) : Int)) ((wkV p t (refV p t x) (wkN p t)).1)).2) ((wkV p t (refV p t x) (wkN p t)).2) 1 W (by omega) (by omega)) ?_
     rintro e W2 ⟨rfl, g2⟩
     exact ⟨_, rfl, X.kn rfl, hR.call (by decide) (fun b e => by subst e; exact hmlt) (g2.only _) (hR.m.gr g2)⟩
    ·intro ac done u W Sx hR
     exact X.val (X.w1 rfl (Sx.yl 1 43 true (by kernel_rfl) rfl rfl)) rfl (X.load rfl (Sx.ev 11 (.pointer (some ⟨w14.heap.size, 0, none⟩))) (X.ldN (Try.agg69 _) (Try.siz69 _) (Y.atz (⟨w14.heap.size, 0, none⟩) (Y.AtFrom.cons (hR.o.cell (hC.at 6 rfl) (by show ¬ w14.heap.size = bm; omega)) (Y.AtFrom.cons (hR.o.cell (hC.at 7 rfl) (by show ¬ w14.heap.size = bm; omega)) (Y.AtFrom.nil _ _ _)))))) (hR.quiet (by decide))
    ·intro ac done u W Sx hR
     exact X.val (X.w1 rfl (Sx.yl 1 43 true (by kernel_rfl) rfl rfl)) rfl (X.binop rfl (Sx.ev 48 (.agg #[.int .i64 (((bestV p ((t : Int) + 1 + ((wkN p t : Nat) : Int)) ((wkV p t (refV p t x) (wkN p t)).1)).1 : Int) + ((wkV p t (refV p t x) (wkN p t)).2)), .int .i64 (((bestV p ((t : Int) + 1 + ((wkN p t : Nat) : Int)) ((wkV p t (refV p t x) (wkN p t)).1)).2 : Int) + 1)])) (Sx.ev 49 (.agg #[.int .i64 ((bestV p t x).1), .int .i64 ((bestV p t x).2)])) (Try.eq69 _ _ _ _ _ _ _)) (hR.quiet (by decide))
    ·intro ac done u W Sx hR
     exact X.val (X.w0 rfl) rfl (X.pickT rfl (Sx.ev 43 (.bool true)) (Sx.ev 50 (.bool (eq2 (((bestV p ((t : Int) + 1 + ((wkN p t : Nat) : Int)) ((wkV p t (refV p t x) (wkN p t)).1)).1 : Int) + ((wkV p t (refV p t x) (wkN p t)).2), ((bestV p ((t : Int) + 1 + ((wkN p t : Nat) : Int)) ((wkV p t (refV p t x) (wkN p t)).1)).2 : Int) + 1) ((bestV p t x).1, (bestV p t x).2))))) (hR.quiet (by decide))
    rintro ac u w72 hs hd hl_ ho hR
    replace F : Fr ac 66 [(0, .agg #[.int .i64 gr, .int .i64 hold, .slice na n nc]), (1, .int .i64 i), (2, .int .i64 T), (3, .pointer (some ⟨w.heap.size, 0, none⟩)), (6, v), (7, .int .i64 0), (8, .int .i64 (nodeE gr hold nd i T)), (9, .pointer (some ⟨bq, 0, none⟩)), (10, .pointer (some ⟨sb, 0, none⟩)), (11, .pointer (some ⟨w14.heap.size, 0, none⟩)), (12, .pointer (some ⟨w54.heap.size, 0, none⟩)), (13, .pointer (some ⟨w61.heap.size, 0, none⟩)), (14, .bool true), (20, .bool false), (31, .bool true), (51, .bool (eq2 (((bestV p ((t : Int) + 1 + ((wkN p t : Nat) : Int)) ((wkV p t (refV p t x) (wkN p t)).1)).1 : Int) + ((wkV p t (refV p t x) (wkN p t)).2), ((bestV p ((t : Int) + 1 + ((wkN p t : Nat) : Int)) ((wkV p t (refV p t x) (wkN p t)).1)).2 : Int) + 1) ((bestV p t x).1, (bestV p t x).2)))] := X.fr hs hd hl_ _ (by kernel_rfl)
    have hon := hR.o
    have hM2 := hR.m
    clear hs hd hl_ ho hR
    replace G := Y.Only.up G hon (by omega)
    replace hq := hq.only hon (by show ¬ bq = bm; omega)
    replace hM := hM2
    replace hV := hV.only hon (by show ¬ sb = bm; omega)
    replace hO := hO.only hon (fun b e h => by have h1 := (hO.ge e).1; omega)
    replace hBw := hBw.only hon
    replace hV15 := hV15.only hon (by show ¬ w14.heap.size = bm; omega)
    replace hV55 := hV55.only hon (by show ¬ w54.heap.size = bm; omega)
    replace hV62 := hV62.only hon (by show ¬ w61.heap.size = bm; omega)
    replace hC : RCells w72 [(⟨sb, 0, none⟩, .int .i64 t), (⟨sb, 1, none⟩, .int .i64 x), (⟨w54.heap.size, 0, none⟩, .int .i64 ((t : Int) + 1 + ((wkN p t : Nat) : Int))), (⟨w54.heap.size, 1, none⟩, .int .i64 ((wkV p t (refV p t x) (wkN p t)).1)), (⟨w61.heap.size, 0, none⟩, .int .i64 ((wkV p t (refV p t x) (wkN p t)).2)), (⟨w61.heap.size, 1, none⟩, .int .i64 1), (⟨w14.heap.size, 0, none⟩, .int .i64 ((bestV p t x).1)), (⟨w14.heap.size, 1, none⟩, .int .i64 ((bestV p t x).2))] := (RCells.cons (hon.cell (hC.at 0 rfl) (by show ¬ sb = bm; omega)) (RCells.cons (hon.cell (hC.at 1 rfl) (by show ¬ sb = bm; omega)) (RCells.cons (hon.cell (hC.at 2 rfl) (by show ¬ w54.heap.size = bm; omega)) (RCells.cons (hon.cell (hC.at 3 rfl) (by show ¬ w54.heap.size = bm; omega)) (RCells.cons (hon.cell (hC.at 4 rfl) (by show ¬ w61.heap.size = bm; omega)) (RCells.cons (hon.cell (hC.at 5 rfl) (by show ¬ w61.heap.size = bm; omega)) (RCells.cons (hon.cell (hC.at 6 rfl) (by show ¬ w14.heap.size = bm; omega)) (RCells.cons (hon.cell (hC.at 7 rfl) (by show ¬ w14.heap.size = bm; omega)) (RCells.nil _)))))))))
    clear hon
    refine X.thenN ?_
    cases h73 : eq2 (((bestV p ((t : Int) + 1 + ((wkN p t : Nat) : Int)) ((wkV p t (refV p t x) (wkN p t)).1)).1 : Int) + ((wkV p t (refV p t x) (wkN p t)).2), ((bestV p ((t : Int) + 1 + ((wkN p t : Nat) : Int)) ((wkV p t (refV p t x) (wkN p t)).1)).2 : Int) + 1) ((bestV p t x).1, (bestV p t x).2) with
    | false =>
     try rw [h73] at F
     have htk : takeB p t x = false := h73
     refine Y.condF (F.ev 51 (.bool false)) ?_
     refine Y.skip ?_
     refine X.thenN ?_
     refine Y.lit (by kernel_rfl) ?_
     refine Y.pval F (X.w0 rfl) rfl (X.move rfl (F.ev 9 (.pointer (some ⟨bq, 0, none⟩)))) ?_
     clear F ac
     intro ac F
     refine Y.pval F (X.w0 rfl) rfl (X.load rfl (F.ev 10 (.pointer (some ⟨sb, 0, none⟩))) (X.ldN (Try.agg72 _) (Try.siz72 _) (Y.atz (⟨sb, 0, none⟩) (Y.AtFrom.cons (hC.at 0 rfl) (Y.AtFrom.cons (hC.at 1 rfl) (Y.AtFrom.nil _ _ _)))))) ?_
     clear F ac
     intro ac F
     refine Y.pcall F (X.w0 rfl) rfl (X.enter (F := 63) rfl (X.kc (.func (.func 63) #[] #[]) rfl) (X.a2 (F.ev 59 (.pointer (some ⟨bq, 0, none⟩))) (F.ev 60 (.agg #[.int .i64 t, .int .i64 x]))) (enters_of Try.func63 (by kernel_rfl) rfl _)) (stay_any bq bm gq p t x w72 hq h (by omega) (by omega)) ?_
     clear F ac
     rintro e w74 ⟨rfl, g⟩
     refine ⟨_, rfl, ?_⟩
     intro ac F
     replace G := G.trans g
     replace hC := hC.gr g
     replace hq := hq.gr g
     replace hM := hM.gr g
     replace hV := hV.gr g
     replace hO := hO.gr g
     replace hBw := hBw.gr g
     replace hV15 := hV15.gr g
     replace hV55 := hV55.gr g
     replace hV62 := hV62.gr g
     clear g
     refine Y.pval F (X.w0 rfl) rfl (X.move rfl (F.ev 61 (.tuple #[.agg #[.int .i64 ((t : Int) + 1), .int .i64 (refV p t x)], .agg #[.int .i64 p.za, .int .i64 0]]))) ?_
     clear F ac
     intro ac F
     refine Y.pval F (X.w0 rfl) rfl (X.extract rfl (F.ev 58 (.tuple #[.agg #[.int .i64 ((t : Int) + 1), .int .i64 (refV p t x)], .agg #[.int .i64 p.za, .int .i64 0]])) rfl) ?_
     clear F ac
     intro ac F
     refine Y.pval F (X.w0 rfl) rfl (X.extract rfl (F.ev 58 (.tuple #[.agg #[.int .i64 ((t : Int) + 1), .int .i64 (refV p t x)], .agg #[.int .i64 p.za, .int .i64 0]])) rfl) ?_
     clear F ac
     intro ac F
     obtain ⟨w75, hrun, hS2, hon⟩ := hV.st2 (P := Try.prog) (t := 72) (x := .int .i64 ((t : Int) + 1)) (y := .int .i64 (refV p t x)) (fun W => Try.siz72 W) rfl rfl
     refine Y.punit F (X.w0 rfl) rfl (X.store rfl (F.ev 10 (.pointer (some ⟨sb, 0, none⟩))) (F.ev 62 (.agg #[.int .i64 ((t : Int) + 1), .int .i64 (refV p t x)])) hrun) ?_
     clear F ac hrun
     intro ac F
     replace G := Y.Only.up G hon (by omega)
     replace hq := hq.only hon (by show ¬ _ = _; omega)
     replace hM := hM.only hon (by show ¬ _ = _; omega)
     replace hO := hO.only hon (fun b e h => by have h1 := (hO.ge e).1; have h2 := hOs _ e; have hOq19_ := hOq19 _ e; have hOq60_ := hOq60 _ e; have hOq68_ := hOq68 _ e; omega)
     replace hBw := hBw.only hon
     replace hV15 := hV15.only hon (by show ¬ _ = _; omega)
     replace hV55 := hV55.only hon (by show ¬ _ = _; omega)
     replace hV62 := hV62.only hon (by show ¬ _ = _; omega)
     replace hC : RCells w75 [(⟨w54.heap.size, 0, none⟩, .int .i64 ((t : Int) + 1 + ((wkN p t : Nat) : Int))), (⟨w54.heap.size, 1, none⟩, .int .i64 ((wkV p t (refV p t x) (wkN p t)).1)), (⟨w61.heap.size, 0, none⟩, .int .i64 ((wkV p t (refV p t x) (wkN p t)).2)), (⟨w61.heap.size, 1, none⟩, .int .i64 1), (⟨w14.heap.size, 0, none⟩, .int .i64 ((bestV p t x).1)), (⟨w14.heap.size, 1, none⟩, .int .i64 ((bestV p t x).2))] := (RCells.cons (hon.cell (hC.at 2 rfl) (by show ¬ w54.heap.size = sb; omega)) (RCells.cons (hon.cell (hC.at 3 rfl) (by show ¬ w54.heap.size = sb; omega)) (RCells.cons (hon.cell (hC.at 4 rfl) (by show ¬ w61.heap.size = sb; omega)) (RCells.cons (hon.cell (hC.at 5 rfl) (by show ¬ w61.heap.size = sb; omega)) (RCells.cons (hon.cell (hC.at 6 rfl) (by show ¬ w14.heap.size = sb; omega)) (RCells.cons (hon.cell (hC.at 7 rfl) (by show ¬ w14.heap.size = sb; omega)) (RCells.nil _)))))))
     replace hV := hS2
     clear hS2 hon
     refine Y.nil ?_
     replace F : Fr ac 66 [(0, .agg #[.int .i64 gr, .int .i64 hold, .slice na n nc]), (1, .int .i64 i), (2, .int .i64 T), (3, .pointer (some ⟨w.heap.size, 0, none⟩)), (6, v), (7, .int .i64 0), (8, .int .i64 (nodeE gr hold nd i T)), (9, .pointer (some ⟨bq, 0, none⟩)), (10, .pointer (some ⟨sb, 0, none⟩)), (11, .pointer (some ⟨w14.heap.size, 0, none⟩)), (12, .pointer (some ⟨w54.heap.size, 0, none⟩)), (13, .pointer (some ⟨w61.heap.size, 0, none⟩)), (14, .bool true), (20, .bool false), (31, .bool true), (51, .bool false)] := F.sub _
     refine X.blockN ?_
     refine X.thenN ?_
     refine Y.seq ?_
     refine Y.lit (by kernel_rfl) ?_
     replace hC : RCells w75 [(⟨w54.heap.size, 0, none⟩, .int .i64 ((t : Int) + 1 + ((wkN p t : Nat) : Int))), (⟨w54.heap.size, 1, none⟩, .int .i64 ((wkV p t (refV p t x) (wkN p t)).1)), (⟨w61.heap.size, 0, none⟩, .int .i64 ((wkV p t (refV p t x) (wkN p t)).2)), (⟨w61.heap.size, 1, none⟩, .int .i64 1), (⟨w14.heap.size, 0, none⟩, .int .i64 ((bestV p t x).1)), (⟨w14.heap.size, 1, none⟩, .int .i64 ((bestV p t x).2)), (⟨sb, 0, none⟩, .int .i64 ((t : Int) + 1))] := hC.append ((RCells.cons (hV.cell (k := 0) (by decide)) (RCells.nil _)))
     replace hC : RCells w75 [(⟨w54.heap.size, 0, none⟩, .int .i64 ((t : Int) + 1 + ((wkN p t : Nat) : Int))), (⟨w54.heap.size, 1, none⟩, .int .i64 ((wkV p t (refV p t x) (wkN p t)).1)), (⟨w61.heap.size, 0, none⟩, .int .i64 ((wkV p t (refV p t x) (wkN p t)).2)), (⟨w61.heap.size, 1, none⟩, .int .i64 1), (⟨w14.heap.size, 0, none⟩, .int .i64 ((bestV p t x).1)), (⟨w14.heap.size, 1, none⟩, .int .i64 ((bestV p t x).2)), (⟨sb, 0, none⟩, .int .i64 ((t : Int) + 1)), (⟨sb, 1, none⟩, .int .i64 (refV p t x))] := hC.append ((RCells.cons (hV.cell (k := 1) (by decide)) (RCells.nil _)))
     refine Y.pval F (X.w0 rfl) rfl (X.load rfl (F.ev 10 (.pointer (some ⟨sb, 0, none⟩))) (X.ldN (Try.agg72 _) (Try.siz72 _) (Y.atz (⟨sb, 0, none⟩) (Y.AtFrom.cons (hC.at 6 rfl) (Y.AtFrom.cons (hC.at 7 rfl) (Y.AtFrom.nil _ _ _)))))) ?_
     clear F ac
     intro ac F
     refine Y.nil ?_
     replace F : Fr ac 66 [(0, .agg #[.int .i64 gr, .int .i64 hold, .slice na n nc]), (1, .int .i64 i), (2, .int .i64 T), (3, .pointer (some ⟨w.heap.size, 0, none⟩)), (6, v), (7, .int .i64 0), (8, .int .i64 (nodeE gr hold nd i T)), (9, .pointer (some ⟨bq, 0, none⟩)), (10, .pointer (some ⟨sb, 0, none⟩)), (11, .pointer (some ⟨w14.heap.size, 0, none⟩)), (12, .pointer (some ⟨w54.heap.size, 0, none⟩)), (13, .pointer (some ⟨w61.heap.size, 0, none⟩)), (14, .bool true), (20, .bool false), (31, .bool true), (51, .bool false), (64, .agg #[.int .i64 ((t : Int) + 1), .int .i64 (refV p t x)])] := F.sub _
     refine X.thenN ?_
     refine Y.lit (by kernel_rfl) ?_
     refine Y.pval F (X.w0 rfl) rfl (Y.al rfl (Try.new72 _)) ?_
     clear F ac
     intro ac F
     have hgshV76 := G.size
     have hq77 : sb < w75.heap.size := hV.lt
     have hq78 : w14.heap.size < w75.heap.size := hV15.lt
     have hq79 : w54.heap.size < w75.heap.size := hV55.lt
     have hq80 : w61.heap.size < w75.heap.size := hV62.lt
     have hq81 : sb < w75.heap.size := lt_cell (hC.at 6 rfl)
     have hq82 : w14.heap.size < w75.heap.size := lt_cell (hC.at 4 rfl)
     have hq83 : w54.heap.size < w75.heap.size := lt_cell (hC.at 0 rfl)
     have hq84 : w61.heap.size < w75.heap.size := lt_cell (hC.at 2 rfl)
     have hqm85 : bq < w75.heap.size ∧ bm < w75.heap.size := ⟨hq.lt, hM.lt⟩
     have hOq86 : ∀ b, v.ownBlock = some b → b < w75.heap.size := fun b e => (hO.ge e).2
     have g := Gr.alloc w75 (.cells #[.int .i64 0, .int .i64 0] 72)
     have hb := heap_alloc_new w75 (.cells #[.int .i64 0, .int .i64 0] 72)
     have hbl : w75.heap.size < (w75.alloc (.cells #[.int .i64 0, .int .i64 0] 72)).heap.size := by simp
     generalize w75.alloc (.cells #[.int .i64 0, .int .i64 0] 72) = w87 at *
     replace G := G.trans g
     replace hC := hC.gr g
     replace hq := hq.gr g
     replace hM := hM.gr g
     replace hV := hV.gr g
     replace hO := hO.gr g
     replace hBw := hBw.gr g
     replace hV15 := hV15.gr g
     replace hV55 := hV55.gr g
     replace hV62 := hV62.gr g
     have hV76 := ownP_2 hb
     clear g hb hbl
     obtain ⟨w88, hrun, hS2, hon⟩ := hV76.st2 (P := Try.prog) (t := 72) (x := .int .i64 ((t : Int) + 1)) (y := .int .i64 (refV p t x)) (fun W => Try.siz72 W) rfl rfl
     refine Y.punit F (X.w0 rfl) rfl (X.store rfl (F.ev 10 (.pointer (some ⟨w75.heap.size, 0, none⟩))) (F.ev 64 (.agg #[.int .i64 ((t : Int) + 1), .int .i64 (refV p t x)])) hrun) ?_
     clear F ac hrun
     intro ac F
     replace G := Y.Only.up G hon (by omega)
     replace hq := hq.only hon (by show ¬ _ = _; omega)
     replace hM := hM.only hon (by show ¬ _ = _; omega)
     replace hV := hV.only hon (by show ¬ _ = _; omega)
     replace hO := hO.only hon (fun b e h => by have h1 := (hO.ge e).1; have h2 := hOs _ e; have hOq19_ := hOq19 _ e; have hOq60_ := hOq60 _ e; have hOq68_ := hOq68 _ e; have hOq86_ := hOq86 _ e; omega)
     replace hBw := hBw.only hon
     replace hV15 := hV15.only hon (by show ¬ _ = _; omega)
     replace hV55 := hV55.only hon (by show ¬ _ = _; omega)
     replace hV62 := hV62.only hon (by show ¬ _ = _; omega)
     replace hC : RCells w88 [(⟨w54.heap.size, 0, none⟩, .int .i64 ((t : Int) + 1 + ((wkN p t : Nat) : Int))), (⟨w54.heap.size, 1, none⟩, .int .i64 ((wkV p t (refV p t x) (wkN p t)).1)), (⟨w61.heap.size, 0, none⟩, .int .i64 ((wkV p t (refV p t x) (wkN p t)).2)), (⟨w61.heap.size, 1, none⟩, .int .i64 1), (⟨w14.heap.size, 0, none⟩, .int .i64 ((bestV p t x).1)), (⟨w14.heap.size, 1, none⟩, .int .i64 ((bestV p t x).2)), (⟨sb, 0, none⟩, .int .i64 ((t : Int) + 1)), (⟨sb, 1, none⟩, .int .i64 (refV p t x))] := (RCells.cons (hon.cell (hC.at 0 rfl) (by show ¬ w54.heap.size = w75.heap.size; omega)) (RCells.cons (hon.cell (hC.at 1 rfl) (by show ¬ w54.heap.size = w75.heap.size; omega)) (RCells.cons (hon.cell (hC.at 2 rfl) (by show ¬ w61.heap.size = w75.heap.size; omega)) (RCells.cons (hon.cell (hC.at 3 rfl) (by show ¬ w61.heap.size = w75.heap.size; omega)) (RCells.cons (hon.cell (hC.at 4 rfl) (by show ¬ w14.heap.size = w75.heap.size; omega)) (RCells.cons (hon.cell (hC.at 5 rfl) (by show ¬ w14.heap.size = w75.heap.size; omega)) (RCells.cons (hon.cell (hC.at 6 rfl) (by show ¬ sb = w75.heap.size; omega)) (RCells.cons (hon.cell (hC.at 7 rfl) (by show ¬ sb = w75.heap.size; omega)) (RCells.nil _)))))))))
     replace hV76 := hS2
     clear hS2 hon
     refine Y.nil ?_
     replace F : Fr ac 66 [(0, .agg #[.int .i64 gr, .int .i64 hold, .slice na n nc]), (1, .int .i64 i), (2, .int .i64 T), (3, .pointer (some ⟨w.heap.size, 0, none⟩)), (6, v), (7, .int .i64 0), (8, .int .i64 (nodeE gr hold nd i T)), (9, .pointer (some ⟨bq, 0, none⟩)), (10, .pointer (some ⟨w75.heap.size, 0, none⟩)), (11, .pointer (some ⟨w14.heap.size, 0, none⟩)), (12, .pointer (some ⟨w54.heap.size, 0, none⟩)), (13, .pointer (some ⟨w61.heap.size, 0, none⟩)), (14, .bool true), (20, .bool false), (31, .bool true), (51, .bool false), (64, .agg #[.int .i64 ((t : Int) + 1), .int .i64 (refV p t x)])] := F.sub _
     refine X.thenN ?_
     refine ⟨_, ?_, (t : Int) + 1, refV p t x, _, _, D, rfl, ⟨by omega, by omega, by omega⟩, ⟨by omega, by omega⟩, by rw [← hD, noi_skip htT hwk htk], ⟨by omega, by omega, by omega, fun b e => by have := hOq86 b e; omega⟩, G, hBw, hq, hM, hV76, hO, F.sub _⟩
     omega
    | true =>
     try rw [h73] at F
     have htk : takeB p t x = true := h73
     refine Y.condT (F.ev 51 (.bool true)) ?_
     refine Y.seq ?_
     refine Y.lit (by kernel_rfl) ?_
     refine Y.pval F (X.w0 rfl) rfl (X.move rfl (F.ev 6 (v))) ?_
     clear F ac
     intro ac F
     refine Y.pval F (X.w0 rfl) rfl (X.field rfl (F.ev 10 (.pointer (some ⟨sb, 0, none⟩))) (X.fld Try.underlying72 rfl (Try.siz3 _) rfl rfl)) ?_
     clear F ac
     intro ac F
     refine Y.pval F (X.w0 rfl) rfl (X.load rfl (F.ev 53 (.pointer (some ⟨sb, 0, none⟩))) (X.ld1 (Try.agg3 _) (hC.at 0 rfl))) ?_
     clear F ac
     intro ac F
     refine Y.pval F (X.w0 rfl) rfl (X.bs rfl (X.b1 (F.ev 54 (.int .i64 t))) (Try.bs34_1 t _)) ?_
     clear F ac
     intro ac F
     have hq89 : sb < w72.heap.size := hV.lt
     have hq90 : w14.heap.size < w72.heap.size := hV15.lt
     have hq91 : w54.heap.size < w72.heap.size := hV55.lt
     have hq92 : w61.heap.size < w72.heap.size := hV62.lt
     have hq93 : sb < w72.heap.size := lt_cell (hC.at 0 rfl)
     have hq94 : w14.heap.size < w72.heap.size := lt_cell (hC.at 6 rfl)
     have hq95 : w54.heap.size < w72.heap.size := lt_cell (hC.at 2 rfl)
     have hq96 : w61.heap.size < w72.heap.size := lt_cell (hC.at 4 rfl)
     have hqm97 : bq < w72.heap.size ∧ bm < w72.heap.size := ⟨hq.lt, hM.lt⟩
     have hOq98 : ∀ b, v.ownBlock = some b → b < w72.heap.size := fun b e => (hO.ge e).2
     have g := Gr.alloc w72 (.cells #[.int .i64 t] 3)
     have hb := heap_alloc_new w72 (.cells #[.int .i64 t] 3)
     have hbl : w72.heap.size < (w72.alloc (.cells #[.int .i64 t] 3)).heap.size := by simp
     have hC2 : RCells (w72.alloc (.cells #[.int .i64 t] 3)) [(⟨sb, 0, none⟩, .int .i64 t), (⟨sb, 1, none⟩, .int .i64 x), (⟨w54.heap.size, 0, none⟩, .int .i64 ((t : Int) + 1 + ((wkN p t : Nat) : Int))), (⟨w54.heap.size, 1, none⟩, .int .i64 ((wkV p t (refV p t x) (wkN p t)).1)), (⟨w61.heap.size, 0, none⟩, .int .i64 ((wkV p t (refV p t x) (wkN p t)).2)), (⟨w61.heap.size, 1, none⟩, .int .i64 1), (⟨w14.heap.size, 0, none⟩, .int .i64 ((bestV p t x).1)), (⟨w14.heap.size, 1, none⟩, .int .i64 ((bestV p t x).2)), (⟨w72.heap.size, 0, none⟩, .int .i64 t)] := hC.box (b := w72.heap.size) #[.int .i64 t] 3 rfl
     generalize w72.alloc (.cells #[.int .i64 t] 3) = w99 at *
     replace G := G.trans g
     replace hC := hC2
     clear hC2
     replace hq := hq.gr g
     replace hM := hM.gr g
     replace hV := hV.gr g
     replace hO := hO.gr g
     replace hBw := hBw.gr g
     replace hV15 := hV15.gr g
     replace hV55 := hV55.gr g
     replace hV62 := hV62.gr g
     have hbk := hb
     clear g hb hbl
     have hBW : B0 ≤ w99.heap.size := hBw
     have hsl9 : sb < w99.heap.size := hV.lt
     refine Y.wpL_plain rfl fun _ hK => wp_pushV Try.underlying34 Try.info3 rfl (by decide) rfl (F.ev 52 (v)) (F.ev 55 (.slice (some ⟨w72.heap.size, 0, none⟩) 1 1)) hO (m := 1) (news := [.int .i64 t]) rfl (cells_at (vs := [.int .i64 t]) hbk) rfl (by omega) (by decide) hBW (fun v_w100 w100 hO2 hon hat => hK _ _ ?_)
     refine Y.pput F rfl ?_
     clear F ac hbk
     intro ac F
     replace G := ((G.only (fun b => w.heap.size ≤ b)).trans (hon.mono' (fun i e => by have h1 := (hO.ge e).1; omega))).gr (fun i hi e => by omega)
     replace hq := hq.only hon (fun e => by have h1 := (hO.ge e).1; have h2 := hOs _ e; have hOq19_ := hOq19 _ e; have hOq60_ := hOq60 _ e; have hOq68_ := hOq68 _ e; have hOq98_ := hOq98 _ e; omega)
     replace hM := hM.only hon (fun e => by have h1 := (hO.ge e).1; have h2 := hOs _ e; have hOq19_ := hOq19 _ e; have hOq60_ := hOq60 _ e; have hOq68_ := hOq68 _ e; have hOq98_ := hOq98 _ e; omega)
     replace hV := hV.only hon (fun e => by have h1 := (hO.ge e).1; have h2 := hOs _ e; have hOq19_ := hOq19 _ e; have hOq60_ := hOq60 _ e; have hOq68_ := hOq68 _ e; have hOq98_ := hOq98 _ e; omega)
     replace hBw := hBw.only hon
     replace hV15 := hV15.only hon (fun e => by have h1 := (hO.ge e).1; have h2 := hOs _ e; have hOq19_ := hOq19 _ e; have hOq60_ := hOq60 _ e; have hOq68_ := hOq68 _ e; have hOq98_ := hOq98 _ e; omega)
     replace hV55 := hV55.only hon (fun e => by have h1 := (hO.ge e).1; have h2 := hOs _ e; have hOq19_ := hOq19 _ e; have hOq60_ := hOq60 _ e; have hOq68_ := hOq68 _ e; have hOq98_ := hOq98 _ e; omega)
     replace hV62 := hV62.only hon (fun e => by have h1 := (hO.ge e).1; have h2 := hOs _ e; have hOq19_ := hOq19 _ e; have hOq60_ := hOq60 _ e; have hOq68_ := hOq68 _ e; have hOq98_ := hOq98 _ e; omega)
     replace hC : RCells w100 [] := RCells.nil _
     replace hO := hO2
     clear hO2 hon
     have hOs2 : ∀ b, v_w100.ownBlock = some b → ¬ b = sb := fun b e => by
      rcases hat with h_ | h_
      ·exact hOs b (h_ ▸ e)
      ·rw [h_] at e; injection e with e; omega
     clear hOs hat
     have hOs := hOs2
     clear hOs2
     refine Y.pval F (X.w0 rfl) rfl (X.assign rfl (F.ev 56 (v_w100))) ?_
     clear F ac
     intro ac F
     refine Y.nil ?_
     replace F : Fr ac 66 [(0, .agg #[.int .i64 gr, .int .i64 hold, .slice na n nc]), (1, .int .i64 i), (2, .int .i64 T), (3, .pointer (some ⟨w.heap.size, 0, none⟩)), (6, v_w100), (7, .int .i64 0), (8, .int .i64 (nodeE gr hold nd i T)), (9, .pointer (some ⟨bq, 0, none⟩)), (10, .pointer (some ⟨sb, 0, none⟩)), (11, .pointer (some ⟨w14.heap.size, 0, none⟩)), (12, .pointer (some ⟨w54.heap.size, 0, none⟩)), (13, .pointer (some ⟨w61.heap.size, 0, none⟩)), (14, .bool true), (20, .bool false), (31, .bool true), (51, .bool true)] := F.sub _
     refine X.thenN ?_
     refine Y.seq ?_
     refine Y.lit (by kernel_rfl) ?_
     have hC : RCells w100 [(⟨w54.heap.size, 0, none⟩, .int .i64 ((t : Int) + 1 + ((wkN p t : Nat) : Int)))] := (RCells.cons (hV55.cell (k := 0) (by decide)) (RCells.nil _))
     replace hC : RCells w100 [(⟨w54.heap.size, 0, none⟩, .int .i64 ((t : Int) + 1 + ((wkN p t : Nat) : Int))), (⟨w54.heap.size, 1, none⟩, .int .i64 ((wkV p t (refV p t x) (wkN p t)).1))] := hC.append ((RCells.cons (hV55.cell (k := 1) (by decide)) (RCells.nil _)))
     refine Y.pval F (X.w0 rfl) rfl (X.load rfl (F.ev 12 (.pointer (some ⟨w54.heap.size, 0, none⟩))) (X.ldN (Try.agg72 _) (Try.siz72 _) (Y.atz (⟨w54.heap.size, 0, none⟩) (Y.AtFrom.cons (hC.at 0 rfl) (Y.AtFrom.cons (hC.at 1 rfl) (Y.AtFrom.nil _ _ _)))))) ?_
     clear F ac
     intro ac F
     obtain ⟨w101, hrun, hS2, hon⟩ := hV.st2 (P := Try.prog) (t := 72) (x := .int .i64 ((t : Int) + 1 + ((wkN p t : Nat) : Int))) (y := .int .i64 ((wkV p t (refV p t x) (wkN p t)).1)) (fun W => Try.siz72 W) rfl rfl
     refine Y.punit F (X.w0 rfl) rfl (X.store rfl (F.ev 10 (.pointer (some ⟨sb, 0, none⟩))) (F.ev 57 (.agg #[.int .i64 ((t : Int) + 1 + ((wkN p t : Nat) : Int)), .int .i64 ((wkV p t (refV p t x) (wkN p t)).1)])) hrun) ?_
     clear F ac hrun
     intro ac F
     replace G := Y.Only.up G hon (by omega)
     replace hq := hq.only hon (by show ¬ _ = _; omega)
     replace hM := hM.only hon (by show ¬ _ = _; omega)
     replace hO := hO.only hon (fun b e h => by have h1 := (hO.ge e).1; have h2 := hOs _ e; omega)
     replace hBw := hBw.only hon
     replace hV15 := hV15.only hon (by show ¬ _ = _; omega)
     replace hV55 := hV55.only hon (by show ¬ _ = _; omega)
     replace hV62 := hV62.only hon (by show ¬ _ = _; omega)
     replace hC : RCells w101 [(⟨w54.heap.size, 0, none⟩, .int .i64 ((t : Int) + 1 + ((wkN p t : Nat) : Int))), (⟨w54.heap.size, 1, none⟩, .int .i64 ((wkV p t (refV p t x) (wkN p t)).1))] := (RCells.cons (hon.cell (hC.at 0 rfl) (by show ¬ w54.heap.size = sb; omega)) (RCells.cons (hon.cell (hC.at 1 rfl) (by show ¬ w54.heap.size = sb; omega)) (RCells.nil _)))
     replace hV := hS2
     clear hS2 hon
     refine Y.nil ?_
     replace F : Fr ac 66 [(0, .agg #[.int .i64 gr, .int .i64 hold, .slice na n nc]), (1, .int .i64 i), (2, .int .i64 T), (3, .pointer (some ⟨w.heap.size, 0, none⟩)), (6, v_w100), (7, .int .i64 0), (8, .int .i64 (nodeE gr hold nd i T)), (9, .pointer (some ⟨bq, 0, none⟩)), (10, .pointer (some ⟨sb, 0, none⟩)), (11, .pointer (some ⟨w14.heap.size, 0, none⟩)), (12, .pointer (some ⟨w54.heap.size, 0, none⟩)), (13, .pointer (some ⟨w61.heap.size, 0, none⟩)), (14, .bool true), (20, .bool false), (31, .bool true), (51, .bool true)] := F.sub _
     refine X.thenN ?_
     refine Y.exit ?_
     refine X.thenX ?_
     refine X.blockX ?_
     refine X.thenN ?_
     refine Y.seq ?_
     refine Y.lit (by kernel_rfl) ?_
     replace hC : RCells w101 [(⟨w54.heap.size, 0, none⟩, .int .i64 ((t : Int) + 1 + ((wkN p t : Nat) : Int))), (⟨w54.heap.size, 1, none⟩, .int .i64 ((wkV p t (refV p t x) (wkN p t)).1)), (⟨sb, 0, none⟩, .int .i64 ((t : Int) + 1 + ((wkN p t : Nat) : Int)))] := hC.append ((RCells.cons (hV.cell (k := 0) (by decide)) (RCells.nil _)))
     replace hC : RCells w101 [(⟨w54.heap.size, 0, none⟩, .int .i64 ((t : Int) + 1 + ((wkN p t : Nat) : Int))), (⟨w54.heap.size, 1, none⟩, .int .i64 ((wkV p t (refV p t x) (wkN p t)).1)), (⟨sb, 0, none⟩, .int .i64 ((t : Int) + 1 + ((wkN p t : Nat) : Int))), (⟨sb, 1, none⟩, .int .i64 ((wkV p t (refV p t x) (wkN p t)).1))] := hC.append ((RCells.cons (hV.cell (k := 1) (by decide)) (RCells.nil _)))
     refine Y.pval F (X.w0 rfl) rfl (X.load rfl (F.ev 10 (.pointer (some ⟨sb, 0, none⟩))) (X.ldN (Try.agg72 _) (Try.siz72 _) (Y.atz (⟨sb, 0, none⟩) (Y.AtFrom.cons (hC.at 2 rfl) (Y.AtFrom.cons (hC.at 3 rfl) (Y.AtFrom.nil _ _ _)))))) ?_
     clear F ac
     intro ac F
     refine Y.nil ?_
     replace F : Fr ac 66 [(0, .agg #[.int .i64 gr, .int .i64 hold, .slice na n nc]), (1, .int .i64 i), (2, .int .i64 T), (3, .pointer (some ⟨w.heap.size, 0, none⟩)), (6, v_w100), (7, .int .i64 0), (8, .int .i64 (nodeE gr hold nd i T)), (9, .pointer (some ⟨bq, 0, none⟩)), (10, .pointer (some ⟨sb, 0, none⟩)), (11, .pointer (some ⟨w14.heap.size, 0, none⟩)), (12, .pointer (some ⟨w54.heap.size, 0, none⟩)), (13, .pointer (some ⟨w61.heap.size, 0, none⟩)), (14, .bool true), (20, .bool false), (31, .bool true), (51, .bool true), (64, .agg #[.int .i64 ((t : Int) + 1 + ((wkN p t : Nat) : Int)), .int .i64 ((wkV p t (refV p t x) (wkN p t)).1)])] := F.sub _
     refine X.thenN ?_
     refine Y.lit (by kernel_rfl) ?_
     refine Y.pval F (X.w0 rfl) rfl (Y.al rfl (Try.new72 _)) ?_
     clear F ac
     intro ac F
     have hgshV102 := G.size
     have hq103 : sb < w101.heap.size := hV.lt
     have hq104 : w14.heap.size < w101.heap.size := hV15.lt
     have hq105 : w54.heap.size < w101.heap.size := hV55.lt
     have hq106 : w61.heap.size < w101.heap.size := hV62.lt
     have hq107 : sb < w101.heap.size := lt_cell (hC.at 2 rfl)
     have hq108 : w54.heap.size < w101.heap.size := lt_cell (hC.at 0 rfl)
     have hqm109 : bq < w101.heap.size ∧ bm < w101.heap.size := ⟨hq.lt, hM.lt⟩
     have hOq110 : ∀ b, v_w100.ownBlock = some b → b < w101.heap.size := fun b e => (hO.ge e).2
     have g := Gr.alloc w101 (.cells #[.int .i64 0, .int .i64 0] 72)
     have hb := heap_alloc_new w101 (.cells #[.int .i64 0, .int .i64 0] 72)
     have hbl : w101.heap.size < (w101.alloc (.cells #[.int .i64 0, .int .i64 0] 72)).heap.size := by simp
     generalize w101.alloc (.cells #[.int .i64 0, .int .i64 0] 72) = w111 at *
     replace G := G.trans g
     replace hC := hC.gr g
     replace hq := hq.gr g
     replace hM := hM.gr g
     replace hV := hV.gr g
     replace hO := hO.gr g
     replace hBw := hBw.gr g
     replace hV15 := hV15.gr g
     replace hV55 := hV55.gr g
     replace hV62 := hV62.gr g
     have hV102 := ownP_2 hb
     clear g hb hbl
     obtain ⟨w112, hrun, hS2, hon⟩ := hV102.st2 (P := Try.prog) (t := 72) (x := .int .i64 ((t : Int) + 1 + ((wkN p t : Nat) : Int))) (y := .int .i64 ((wkV p t (refV p t x) (wkN p t)).1)) (fun W => Try.siz72 W) rfl rfl
     refine Y.punit F (X.w0 rfl) rfl (X.store rfl (F.ev 10 (.pointer (some ⟨w101.heap.size, 0, none⟩))) (F.ev 64 (.agg #[.int .i64 ((t : Int) + 1 + ((wkN p t : Nat) : Int)), .int .i64 ((wkV p t (refV p t x) (wkN p t)).1)])) hrun) ?_
     clear F ac hrun
     intro ac F
     replace G := Y.Only.up G hon (by omega)
     replace hq := hq.only hon (by show ¬ _ = _; omega)
     replace hM := hM.only hon (by show ¬ _ = _; omega)
     replace hV := hV.only hon (by show ¬ _ = _; omega)
     replace hO := hO.only hon (fun b e h => by have h1 := (hO.ge e).1; have h2 := hOs _ e; have hOq110_ := hOq110 _ e; omega)
     replace hBw := hBw.only hon
     replace hV15 := hV15.only hon (by show ¬ _ = _; omega)
     replace hV55 := hV55.only hon (by show ¬ _ = _; omega)
     replace hV62 := hV62.only hon (by show ¬ _ = _; omega)
     replace hC : RCells w112 [(⟨w54.heap.size, 0, none⟩, .int .i64 ((t : Int) + 1 + ((wkN p t : Nat) : Int))), (⟨w54.heap.size, 1, none⟩, .int .i64 ((wkV p t (refV p t x) (wkN p t)).1)), (⟨sb, 0, none⟩, .int .i64 ((t : Int) + 1 + ((wkN p t : Nat) : Int))), (⟨sb, 1, none⟩, .int .i64 ((wkV p t (refV p t x) (wkN p t)).1))] := (RCells.cons (hon.cell (hC.at 0 rfl) (by show ¬ w54.heap.size = w101.heap.size; omega)) (RCells.cons (hon.cell (hC.at 1 rfl) (by show ¬ w54.heap.size = w101.heap.size; omega)) (RCells.cons (hon.cell (hC.at 2 rfl) (by show ¬ sb = w101.heap.size; omega)) (RCells.cons (hon.cell (hC.at 3 rfl) (by show ¬ sb = w101.heap.size; omega)) (RCells.nil _)))))
     replace hV102 := hS2
     clear hS2 hon
     refine Y.nil ?_
     replace F : Fr ac 66 [(0, .agg #[.int .i64 gr, .int .i64 hold, .slice na n nc]), (1, .int .i64 i), (2, .int .i64 T), (3, .pointer (some ⟨w.heap.size, 0, none⟩)), (6, v_w100), (7, .int .i64 0), (8, .int .i64 (nodeE gr hold nd i T)), (9, .pointer (some ⟨bq, 0, none⟩)), (10, .pointer (some ⟨w101.heap.size, 0, none⟩)), (11, .pointer (some ⟨w14.heap.size, 0, none⟩)), (12, .pointer (some ⟨w54.heap.size, 0, none⟩)), (13, .pointer (some ⟨w61.heap.size, 0, none⟩)), (14, .bool true), (20, .bool false), (31, .bool true), (51, .bool true), (64, .agg #[.int .i64 ((t : Int) + 1 + ((wkN p t : Nat) : Int)), .int .i64 ((wkV p t (refV p t x) (wkN p t)).1)])] := F.sub _
     refine X.thenN ?_
     have hO3 : OwnR w112 B0 3 1 v_w100 (D ++ [t]).length ((D ++ [t]).map (Value.int .i64)) := by rw [List.length_append, List.map_append]; exact hO
     clear hO
     have hO := hO3
     refine ⟨_, ?_, (t : Int) + 1 + ((wkN p t : Nat) : Int), (wkV p t (refV p t x) (wkN p t)).1, _, _, D ++ [t], rfl, ⟨by omega, by omega, by rw [List.length_append]; simp; omega⟩, ⟨by omega, by omega⟩, by rw [← hD, noi_take htT hwk htk]; simp, ⟨by omega, by omega, by omega, fun b e => by have := hOq110 b e; omega⟩, G, hBw, hq, hM, hV102, hO, F.sub _⟩
     omega
 | true =>
  try rw [h5] at F
  have h5p : ¬ (nodeE gr hold nd node T : Int) = 0 := by simpa using h5
  have hE : ¬ nodeE gr hold nd node T = 0 := by simpa using h5p
  refine Y.condT (F.ev 20 (.bool true)) ?_
  refine Y.seq ?_
  refine Y.lit (by kernel_rfl) ?_
  refine Y.pval F (X.w0 rfl) rfl (X.move rfl (F.ev 8 (.int .i64 (nodeE gr hold nd node T)))) ?_
  clear F ac
  intro ac F
  refine Y.pval F (X.w0 rfl) rfl (X.assign rfl (X.kc (.slice none 0 0) rfl)) ?_
  clear F ac
  intro ac F
  refine Y.pval F (X.w0 rfl) rfl (X.assign rfl (F.ev 21 (.int .i64 (nodeE gr hold nd node T)))) ?_
  clear F ac
  intro ac F
  refine Y.nil ?_
  replace F : Fr ac 66 [(0, .agg #[.int .i64 gr, .int .i64 hold, .slice na n nc]), (1, .int .i64 node), (2, .int .i64 T), (3, .pointer (some ⟨w.heap.size, 0, none⟩)), (6, .slice none 0 0), (7, .int .i64 (nodeE gr hold nd node T)), (8, .int .i64 (nodeE gr hold nd node T)), (20, .bool true)] := F.sub _
  refine X.thenN ?_
  refine Y.ret ?_
  refine X.thenR ?_
  exact Y.ret0 (v := .tuple #[.slice none 0 0, .int .i64 (nodeE gr hold nd node T)]) F (Y.rs2 F rfl (by kernel_rfl) (by kernel_rfl)) ⟨none, 0, 0, rfl, by unfold noiR; rw [if_neg hE]; exact Ints.nil _, G⟩
end
end Go.Proofs.Ytoalamakhjbedaa
