/- Several texts of this claim in one file. (1) Plain law: the states of an interrupted update, position by position. No program in sight. (2) Contract: the reference's states. (3) Contract: the reference's states of a whole fleet. (4) Contract: the reference Count. -/
import Derived.Test.YtlilojpnhmfnaaaBd7
import Derived.Test.YtlilojpnhmfnaaaBd6
import Derived.Test.YtlilojpnhmfnaaaBd8
import Derived.Test.YtlilojpnhmfnaaaBd3
import Derived.Test.YtlilojpnhmfnaaaBd1
namespace Go.Proofs.Ytlilojpnhmfnaaa
section
def nxt (T : List (List Int)) (xs : List Int) (L : List (List Int)) (a : Nat) (m : Int) : Nat := if a < L.length ∧ dur T (pAt xs L a) (pAt xs L (a + 1)) ≤ m then a + 1 else a
def posL (T : List (List Int)) (xs : List Int) (L : List (List Int)) : Nat → List Int → List Nat
  | _, [] => []
  | a, m :: r => nxt T xs L a m :: posL T xs L (nxt T xs L a m) r

theorem pAt_succ {xs : List Int} {L : List (List Int)} {a : Nat} : pAt xs L (a + 1) = L[a]?.getD [] := by simp [pAt]
theorem drop_pAt {xs : List Int} {L : List (List Int)} {a : Nat} (h : a < L.length) : L.drop a = pAt xs L (a + 1) :: L.drop (a + 1) := by
  rw [pAt_succ, List.drop_eq_getElem_cons h]; simp [h]
theorem intr_pos (T : List (List Int)) (xs : List Int) (L : List (List Int)) : ∀ (ms : List Int) (a : Nat), a ≤ L.length → intr T (pAt xs L a) (L.drop a) ms = (posL T xs L a ms).map (pAt xs L) := by
  intro ms
  induction ms with
  | nil => intro a _; cases L.drop a <;> simp [intr, posL]
  | cons m r ih =>
    intro a ha
    by_cases hl : a < L.length
    · rw [drop_pAt (xs := xs) hl]
      by_cases hd : dur T (pAt xs L a) (pAt xs L (a + 1)) ≤ m
      · simp only [intr, posL, nxt, hl, hd, and_self, if_true, List.map_cons]
        rw [ih (a + 1) hl]
      · simp only [intr, posL, nxt, hd, and_false, if_false, List.map_cons]
        rw [← drop_pAt (xs := xs) hl, ih a ha]
    · have e : L.drop a = [] := List.drop_eq_nil_of_le (by omega)
      rw [e]
      simp only [intr, posL, nxt, hl, false_and, if_false, List.map_cons]
      rw [← ih a ha, e]
theorem intr_all (T : List (List Int)) (xs : List Int) (L : List (List Int)) (ms : List Int) : intr T xs L ms = (posL T xs L 0 ms).map (pAt xs L) := by
  have := intr_pos T xs L ms 0 (Nat.zero_le _)
  simpa [pAt] using this
theorem posL_len (T : List (List Int)) (xs : List Int) (L : List (List Int)) : ∀ (ms : List Int) (a : Nat), (posL T xs L a ms).length = ms.length := by
  intro ms
  induction ms with
  | nil => intro a; rfl
  | cons m r ih => intro a; simp [posL, ih]
/-- one round: the state is the one before, or the next one of the plan -/
theorem pos_step {T : List (List Int)} {xs : List Int} {L : List (List Int)} {ms : List Int} {k A : Nat} (hk : k < ms.length) (h : posL T xs L A (ms.drop k) = (posL T xs L 0 ms).drop k) :
    ∃ B, (intr T xs L ms)[k]?.getD [] = pAt xs L B ∧ posL T xs L B (ms.drop (k + 1)) = (posL T xs L 0 ms).drop (k + 1) ∧ (B = A ∨ (B = A + 1 ∧ A < L.length)) := by
  have hd : ms.drop k = (ms[k]?.getD 0) :: ms.drop (k + 1) := by rw [List.drop_eq_getElem_cons hk]; simp [hk]
  have hl : k < (posL T xs L 0 ms).length := by rw [posL_len]; exact hk
  have hp : (posL T xs L 0 ms).drop k = (posL T xs L 0 ms)[k] :: (posL T xs L 0 ms).drop (k + 1) := List.drop_eq_getElem_cons hl
  rw [hd, hp, posL] at h
  injection h with h1 h2
  refine ⟨nxt T xs L A (ms[k]?.getD 0), ?_, h2, ?_⟩
  · rw [intr_all, List.getElem?_map, List.getElem?_eq_getElem hl, ← h1]; rfl
  · unfold nxt; split
    · rename_i hh; exact .inr ⟨rfl, hh.1⟩
    · exact .inl rfl

theorem okPlan_ne {f : Fl} {bu : Int} : ∀ (L : List (List Int)) (xs : List Int), okPlan f bu xs L → ∀ k, k < L.length → pAt xs L k ≠ pAt xs L (k + 1) ∧ worksB f (pAt xs L (k + 1)) = true ∧ dur f.times (pAt xs L k) (pAt xs L (k + 1)) ≤ bu := by
  intro L
  induction L with
  | nil => intro xs _ k hk; simp at hk
  | cons s r ih =>
    intro xs h k hk
    cases k with
    | zero =>
      have := h.2.1
      simp only [stepsB, Bool.and_eq_true, Bool.not_eq_true', decide_eq_false_iff_not, decide_eq_true_eq] at this
      exact ⟨by simpa [pAt] using this.1.2, by simpa [pAt] using h.1, by simpa [pAt] using this.2⟩
    | succ k => have := ih s h.2.2 k (by simpa using hk); simpa [pAt] using this
theorem PlOk.works {f : Fl} {bu : Int} {xs : List Int} {L : List (List Int)} (h : PlOk f bu xs L) (hx : worksB f xs = true) {k : Nat} (hk : k ≤ L.length) : worksB f (pAt xs L k) = true := by
  cases k with
  | zero => simpa [pAt] using hx
  | succ k => exact (okPlan_ne L xs h.pl k (by omega)).2.1
theorem cpR_chk {f : Fl} {xs : List Int} {L : List (List Int)} {bu : Int} (h : (cpR f xs L bu).2 = 0) : chkB f = true ∧ worksB f xs = true ∧ 0 ≤ bu := by
  unfold cpR at h
  by_cases hp : cpPre f xs L bu = 0
  · rw [if_pos hp] at h
    by_cases hw : worksB f xs = true
    · have hp2 := hp
      unfold cpPre at hp2
      by_cases hc : chkE f = 0
      · rw [if_pos hc] at hp2
        split at hp2
        · omega
        · have hb : statesE f (xs :: L) = 0 ∧ withinB bu 0 1000000 = true := by
            unfold beginE at hp2
            by_cases hz : statesE f (xs :: L) = 0
            · rw [if_pos hz] at hp2
              refine ⟨hz, ?_⟩
              cases hb : withinB bu 0 1000000 with
              | true => rfl
              | false => rw [hb] at hp2; simp at hp2
            · rw [if_neg hz] at hp2; exact absurd hp2 hz
          refine ⟨(statesE_zero hb.1).1, hw, ?_⟩
          have := hb.2
          simp [withinB] at this; omega
      · rw [if_neg hc] at hp2; exact absurd hp2 hc
    · rw [if_neg hw] at h; simp at h
  · rw [if_neg hp] at h; exact absurd h hp
theorem wE_zero {f : Fl} {s : List Int} (h1 : chkB f = true) (hs : StOk f s) : wE f s = 0 := by
  unfold wE statesE
  rw [if_pos h1, stsB_cons, hs.b]
  simp [stsB]
theorem wB_true {f : Fl} {s : List Int} (h : chkB f = true) (hs : StOk f s) (hw : worksB f s = true) : wB f s = true := by
  unfold wB; rw [show statesE f [s] = 0 from wE_zero h hs, if_pos rfl]; exact hw

/-- with parked times as long as the budget every one is a step -/
theorem posL_full {f : Fl} {bu : Int} {xs : List Int} {L : List (List Int)} (h : okPlan f bu xs L) : ∀ (n a : Nat), a + n = L.length → (posL f.times xs L a (List.replicate n bu)).map (pAt xs L) = L.drop a := by
  intro n
  induction n with
  | zero => intro a ha; rw [List.drop_eq_nil_of_le (by omega)]; rfl
  | succ n ih =>
    intro a ha
    have hl : a < L.length := by omega
    have h1 := okPlan_ne L xs h a hl
    rw [List.replicate_succ]
    simp only [posL, nxt, hl, h1.2.2, and_self, if_true, List.map_cons]
    rw [ih (a + 1) (by omega), ← drop_pAt hl]
theorem intr_full {f : Fl} {bu : Int} {xs : List Int} {L : List (List Int)} (h : okPlan f bu xs L) : intr f.times xs L (List.replicate L.length bu) = L := by
  rw [intr_all, posL_full h L.length 0 (by omega)]; rfl
theorem int_full {f : Fl} {bu : Int} {xs : List Int} {L : List (List Int)} (hc : (cpR f xs L bu).2 = 0) (hb : 0 ≤ bu) : intE f xs L bu (List.replicate L.length bu) = 0 ∧ intV f xs L bu (List.replicate L.length bu) = L := by
  have hp := cpR_pl hc
  have h1 : intE f xs L bu (List.replicate L.length bu) = 0 := by
    unfold intE
    have h64 := hp.n64
    have h2 : (List.replicate L.length bu).any (fun n => decide (n < 0)) = false := by
      rw [List.any_eq_false]; intro x hx
      have := List.eq_of_mem_replicate hx
      subst this; simp; omega
    rw [if_pos hc, if_neg (by rw [List.length_replicate]; omega), h2]; rfl
  exact ⟨h1, by unfold intV; rw [if_pos h1]; exact intr_full hp.pl⟩
theorem int_full2 {f : Fl} {bu : Int} {xs : List Int} {L : List (List Int)} {n : Nat} (hc : (cpR f xs L bu).2 = 0) (hb : 0 ≤ bu) (hn : L.length = n) : intE f xs L bu (List.replicate n bu) = 0 ∧ intV f xs L bu (List.replicate n bu) = L := by
  subst hn; exact int_full hc hb
theorem bk_len (xs : List Int) (L : List (List Int)) : ∀ d, (bk xs L d).length = d := by
  intro d
  induction d with
  | zero => rfl
  | succ d ih => simp [bk, ih]
theorem bk_at (xs : List Int) (L : List (List Int)) : ∀ d j, j < d → (bk xs L d)[j]?.getD [] = pAt xs L (d - 1 - j) := by
  intro d
  induction d with
  | zero => intro j hj; omega
  | succ d ih =>
    intro j hj
    cases j with
    | zero => simp [bk]
    | succ j =>
      simp only [bk, List.getElem?_cons_succ]
      rw [ih j (by omega)]
      congr 1; omega
theorem back_ok {f : Fl} {bu : Int} {xs : List Int} {L : List (List Int)} (hc : (cpR f xs L bu).2 = 0) {d : Nat} (hd : d ≤ L.length) : backE f xs L bu d = 0 ∧ backV f xs L bu d = bk xs L d := by
  have h1 : backE f xs L bu d = 0 := by
    unfold backE; rw [if_pos hc, show withinB (d : Int) 0 L.length = true from by simp [withinB]; omega]; rfl
  exact ⟨h1, by unfold backV; rw [if_pos h1]; rfl⟩
end
section
open Go.RowKit

/-- what the reference's states returns -/
def StPost (w : World) (L : List (List Int)) (e : Ending) (w' : World) : Prop := ∃ v, e = .returned v ∧ OutR w' w.heap.size v L ∧ Gr w w'
theorem OwnI.is3 {w : World} {B n c : Nat} {a : Option Addr} {xs : List Int} (h : OwnI w B (.slice a n c) xs) : ∀ ad, a = some ad → Is3 w ad.block := by
  intro ad e
  subst e
  rcases h.2 with ⟨h, _⟩ | ⟨g, cap, cur, h, _, hg, _⟩
  · cases h
  · cases h; exact ⟨_, _, hg⟩

set_option maxRecDepth 100000 in
set_option maxHeartbeats 4000000 in
theorem states2_leaf (ta ca a : Option Addr) (tn tc cn cc n c : Nat) (f : Fl) (pre : List Int) (w : World) (hf : FlAt w ta tn ca cn f) (hx : Ints w a n pre) (hok : FlOk f) (hp : PreOk f pre) (hl : pre.length = f.times.length) (h3 : ∀ ad, a = some ad → Is3 w ad.block) :
    Calls Try.prog 81 #[.agg #[.slice ta tn tc, .slice ca cn cc], .slice a n c] w (StPost w (enumR f 0 pre)) := by
  have hst := hp.st hl
  have hnt : n = tn := by rw [← hx.len, hl, hf.t.len]
  subst hnt
  have g := Gr.alloc w (.cells #[.slice ta n tc, .slice ca cn cc] 25)
  have hC := (RCells.nil w).box (b := w.heap.size) #[.slice ta n tc, .slice ca cn cc] 25 rfl
  obtain ⟨w2, hw2⟩ : ∃ w2, w.alloc (.cells #[.slice ta n tc, .slice ca cn cc] 25) = w2 := ⟨_, rfl⟩
  rw [hw2] at g hC
  have c0 : w2.cell? ⟨w.heap.size, 0, none⟩ = some (.slice ta n tc) := hC.at 0 rfl
  have c1 : w2.cell? ⟨w.heap.size, 1, none⟩ = some (.slice ca cn cc) := hC.at 1 rfl
  have hee : ((n : Int) == (n : Int)) = true := by simp
  have HC := Lib.hid (clash2_any ta ca a n tc cn cc n c f pre w2 (hf.gr g) hok (hx.gr g) hst)
  have HN1 : Hid (0 < n) := Lib.hid (by have := hok.n1; have := hx.len; omega)
  go_enter Try.func81, Try.ntmps81
  go_wp2_with fail
  refine HC.out.mono ?_
  rintro e w3 ⟨rfl, g3⟩
  clear hw2 HC c0 c1
  by_cases hc : (0 : Int) ≤ clashI f pre
  · have hw : worksB f pre = false := by unfold worksB; exact decide_eq_false (by omega)
    have HR : Hid (enumR f 0 pre = []) := Lib.hid (by simp [enumR, hw])
    go_wp2_with fail
    go_ret
    rw [HR.out]
    exact ⟨_, rfl, OutR.nil _ _, g.trans g3⟩
  · have hw : worksB f pre = true := by unfold worksB; exact decide_eq_true (by omega)
    have HR : Hid (enumR f 0 pre = [pre]) := Lib.hid (by simp [enumR, hw])
    clear hw
    go_wp2_with fail
    go_ret
    rw [HR.out]
    have g4 := (g.trans g3).allocR (.cells #[.slice a n c] 26)
    refine ⟨_, rfl, ?_, g4⟩
    obtain ⟨ad, rfl, hab, _⟩ := hx.at HN1.out
    refine ⟨[.slice (some ad) n c], ⟨rfl, .inr ⟨w3.heap.size, 1, #[.slice (some ad) n c], rfl, (g.trans g3).size, World.alloc_heap_new _ _, Nat.le_refl _, by unfold maxLen; simp, rfl, rfl⟩⟩, fun j hj => ?_⟩
    have hj0 : j = 0 := by simp at hj; omega
    subst hj0
    exact ⟨ad, n, c, rfl, hx.gr g4, (h3 ad rfl).gr g4⟩

set_option maxRecDepth 100000 in
set_option maxHeartbeats 4000000 in
theorem states2_any (f : Fl) (hok : FlOk f) (ta ca : Option Addr) (tn tc cn cc : Nat) : ∀ (k : Nat) (a : Option Addr) (n c : Nat) (pre : List Int) (w : World), FlAt w ta tn ca cn f → Ints w a n pre → PreOk f pre → pre.length + k = f.times.length → (∀ ad, a = some ad → Is3 w ad.block) →
    Calls Try.prog 81 #[.agg #[.slice ta tn tc, .slice ca cn cc], .slice a n c] w (StPost w (enumR f k pre)) := by
  intro k
  induction k with
  | zero =>
    intro a n c pre w hf hx hp hl h3
    exact states2_leaf ta ca a tn tc cn cc n c f pre w hf hx hok hp (by omega) h3
  | succ k ih =>
    intro a n c pre w hf hx hp hl h3
    have IH : Hid (∀ (a : Option Addr) (n c : Nat) (pre' : List Int) (w : World), FlAt w ta tn ca cn f → Ints w a n pre' → PreOk f pre' → pre'.length + k = f.times.length → (∀ ad, a = some ad → Is3 w ad.block) →
        Calls Try.prog 81 #[.agg #[.slice ta tn tc, .slice ca cn cc], .slice a n c] w (StPost w (enumR f k pre'))) := Lib.hid (fun a n c pre' w h1 h2 h3 h4 h5 => ih a n c pre' w h1 h2 h3 h4 h5)
    have HPO := Lib.hid hp
    have hnt : n < tn := by have := hx.len; have := hf.t.len; omega
    have hn6 : n < 6 := by have := hok.n6; have := hf.t.len; omega
    have hne : ((n : Int) == (tn : Int)) = false := by simp; omega
    have HLK : Hid (pre.length + (k + 1) = f.times.length) := Lib.hid hl
    obtain ⟨td, qa, qn, qc, hta, htb, htc, hqi⟩ := hf.t.at hnt
    subst hta
    have HQL : Hid ((f.times[pre.length]?.getD []).length = qn) := Lib.hid (by rw [hx.len]; exact hqi.len)
    have hq3 : qn ≤ 3 := by have := hok.row pre.length (by omega); have := HQL.out; omega
    have HLEN : Hid (∀ m, m ≤ qn + 1 → (enumTo2 f k pre m).length ≤ 4096) := Lib.hid (fun m hm => enumTo2_len hok hl (by rw [HQL.out]; exact hm))
    have HLE2 : Hid (∀ m : Nat, (enumR f k (pre ++ [(m : Int)])).length ≤ 4096) := Lib.hid (fun m => by
      have h1 := enumR_len hok k (pre ++ [(m : Int)]) (by simp; omega)
      have h6 := hok.n6
      have h4 : 4 ^ k ≤ 4 ^ 6 := Nat.pow_le_pow_right (by omega) (by omega)
      have h5 : (4 : Nat) ^ 6 = 4096 := by decide
      omega)
    have HXL : Hid (∀ m : Int, (pre ++ [m]).length = n + 1) := Lib.hid (fun m => by simp [hx.len])
    clear ih hp hl
    have g := Gr.alloc w (.cells #[.slice (some td) tn tc, .slice ca cn cc] 25)
    have hC := ((RCells.nil w).box (b := w.heap.size) #[.slice (some td) tn tc, .slice ca cn cc] 25 rfl).append (RCells.cons ((g.cell (lt_cell htc)).trans htc) (RCells.nil _))
    obtain ⟨w2, hw2⟩ : ∃ w2, w.alloc (.cells #[.slice (some td) tn tc, .slice ca cn cc] 25) = w2 := ⟨_, rfl⟩
    rw [hw2] at g hC
    have d0 : w2.cell? ⟨w.heap.size, 0, none⟩ = some (.slice (some td) tn tc) := hC.at 0 rfl
    go_enter Try.func81, Try.ntmps81
    go_wp2_with fail
    clear d0 hw2
    go_loopw [5, 6] (fun o i wr => ∃ (m : Nat) (vv : Value), m ≤ qn + 1 ∧ i = .int .i64 m ∧ vv = o ∧ Gr w2 wr ∧ OutR wr w2.heap.size o (enumTo2 f k pre m)) (fun _ i _ => qn + 1 - (intOf i).toNat)
    case atStart => exact ⟨0, _, Nat.zero_le _, rfl, rfl, Gr.refl _, OutR.nil _ _⟩
    case round =>
      obtain ⟨m, vv, hm, rfl, rfl, gr, hO⟩ := hrel
      have gw := g.trans gr
      have hC' := hC.gr gr
      have c0 : wr.cell? ⟨w.heap.size, 0, none⟩ = some (.slice (some td) tn tc) := hC'.at 0 rfl
      have c1 : wr.cell? ⟨w.heap.size, 1, none⟩ = some (.slice ca cn cc) := hC'.at 1 rfl
      have c2 : wr.cell? (td.add n) = some (.slice qa qn qc) := hC'.at 2 rfl
      have hLa := HLEN.out m hm
      have hLb := HLE2.out m
      by_cases hlt : (m : Int) ≤ (qn : Int)
      · have hmq : m ≤ qn := by omega
        have HP2 : Hid (PreOk f (pre ++ [(m : Int)])) := Lib.hid (HPO.out.snoc (by rw [HQL.out]; exact hmq))
        go_wp2_with fail
        refine (wpIn_wide (n := 0)).1 ?_
        refine region_inv2 (F := Fence.wide) (by kernel_rfl) (by rfl) (by decide) (fun _ => trivial)
          (fun done' u W' => Kn [some (vv), some (.agg #[.slice (some td) tn tc, .slice ca cn cc]), some (.slice a n c), none, some (.int .i64 m), none, none, none, none, none] done' u ∧ R81 wr w2 pre (m : Int) vv (enumTo2 f k pre m) (enumR f k (pre ++ [(m : Int)])) done' u W')
          (fun u hself => ⟨Kn.start _ _, R81.start wr w2 pre (m : Int) vv (enumTo2 f k pre m) (enumR f k (pre ++ [(m : Int)])) u (fillL_was hself (by decide) 9 rfl rfl rfl)⟩) ⟨?_, ?_, ?_, ?_, ?_, ?_, ?_, ?_, ?_, ?_, trivial⟩ ?_
        · rintro u done' W' hd hanc hclo ⟨hk, hR⟩
          have e9 := hR.old (not_done hclo hd 9 rfl (by kernel_rfl))
          refine op_plain (ro := none) rfl (fun c h => by cases h) fun K hK => ?_
          simp only [fillL, List.setIfInBounds_toArray, List.set_cons_zero, List.set_cons_succ, Nat.zero_add, Nat.reduceAdd, e9] at hK ⊢
          go_simp
          exact hK _ _ ⟨hk.new rfl, hR.quiet (by decide) (by decide) (by decide) (by decide) (by decide) (by decide)⟩
        · rintro u done' W' hd hanc hclo ⟨hk, hR⟩
          have g8 := hR.gr (not_done hclo hd 8 rfl (by kernel_rfl))
          have cc0 := (g8.cell (lt_cell c0)).trans c0
          have cc1 := (g8.cell (lt_cell c1)).trans c1
          refine op_plain (ro := none) rfl (fun c h => by cases h) fun K hK => ?_
          simp only [fillL, List.setIfInBounds_toArray, List.set_cons_zero, List.set_cons_succ, Nat.zero_add, Nat.reduceAdd] at hK ⊢
          go_simp
          exact hK _ _ ⟨hk.new rfl, hR.quiet (by decide) (by decide) (by decide) (by decide) (by decide) (by decide)⟩
        · rintro u done' W' hd hanc hclo ⟨hk, hR⟩
          refine op_plain (ro := none) rfl (fun c h => by cases h) fun K hK => ?_
          simp only [fillL, List.setIfInBounds_toArray, List.set_cons_zero, List.set_cons_succ, Nat.zero_add, Nat.reduceAdd] at hK ⊢
          go_simp
          exact hK _ _ ⟨hk.new rfl, hR.quiet (by decide) (by decide) (by decide) (by decide) (by decide) (by decide)⟩
        · rintro u done' W' hd hanc hclo ⟨hk, hR⟩
          have e2 := hk.get 2 rfl (hanc 2 (mem_of (by kernel_rfl)))
          have g8 := hR.gr (not_done hclo hd 8 rfl (by kernel_rfl))
          have hx8 := hx.gr (gw.trans g8)
          refine op_plain (ro := none) rfl (fun c h => by cases h) fun K hK => ?_
          simp only [fillL, List.setIfInBounds_toArray, List.set_cons_zero, List.set_cons_succ, Nat.zero_add, Nat.reduceAdd, e2] at hK ⊢
          refine wp_copy0 (sa := a) (n := n) (c := c) (y := pre) (B := wr.heap.size) rfl rfl rfl hx8 (by omega) g8.size ?_
          intro x w6 hx6 g6
          exact hK _ _ ⟨hk.skip rfl, hR.copied (not_done hclo hd 6 rfl (by kernel_rfl)) (not_done hclo hd 7 rfl (by kernel_rfl)) (not_done hclo hd 8 rfl (by kernel_rfl)) (not_done hclo hd 9 rfl (by kernel_rfl)) (hR.old (not_done hclo hd 9 rfl (by kernel_rfl))) hx6 g6⟩
        · rintro u done' W' hd hanc hclo ⟨hk, hR⟩
          refine op_plain (ro := none) rfl (fun c h => by cases h) fun K hK => ?_
          simp only [fillL, List.setIfInBounds_toArray, List.set_cons_zero, List.set_cons_succ, Nat.zero_add, Nat.reduceAdd] at hK ⊢
          go_simp
          exact hK _ _ ⟨hk.new rfl, hR.quiet (by decide) (by decide) (by decide) (by decide) (by decide) (by decide)⟩
        · rintro u done' W' hd hanc hclo ⟨hk, hR⟩
          have e4 := hk.get 4 rfl (hanc 4 (mem_of (by kernel_rfl)))
          refine op_plain (ro := none) rfl (fun c h => by cases h) fun K hK => ?_
          simp only [fillL, List.setIfInBounds_toArray, List.set_cons_zero, List.set_cons_succ, Nat.zero_add, Nat.reduceAdd, e4] at hK ⊢
          go_simp
          exact hK _ _ ⟨hk.skip rfl, hR.made (not_done hclo hd 6 rfl (by kernel_rfl)) (not_done hclo hd 7 rfl (by kernel_rfl)) (not_done hclo hd 8 rfl (by kernel_rfl)) (not_done hclo hd 9 rfl (by kernel_rfl)) (hR.old (not_done hclo hd 9 rfl (by kernel_rfl)))⟩
        · rintro u done' W' hd hanc hclo ⟨hk, hR⟩
          have g8 := hR.gr (not_done hclo hd 8 rfl (by kernel_rfl))
          have hcp := hR.cp hd (hanc 3 (mem_of (by kernel_rfl)))
          obtain ⟨g0, e5, hg0⟩ := hR.one hd (hanc 5 (mem_of (by kernel_rfl)))
          refine op_plain (ro := none) rfl (fun c h => by cases h) fun K hK => ?_
          simp only [fillL, List.setIfInBounds_toArray, List.set_cons_zero, List.set_cons_succ, Nat.zero_add, Nat.reduceAdd, e5] at hK ⊢
          generalize u 3 = u3 at *
          refine wp_pushI (w1 := wr) (v := u3) (xs := pre) (g := g0) (z := (m : Int)) rfl rfl rfl hg0 hcp g8 (by rw [hx.len]; omega) ?_
          intro x w6 hx6 g6
          exact hK _ _ ⟨hk.skip rfl, R81.snoc (not_done hclo hd 7 rfl (by kernel_rfl)) (not_done hclo hd 8 rfl (by kernel_rfl)) (not_done hclo hd 9 rfl (by kernel_rfl)) (hR.old (not_done hclo hd 9 rfl (by kernel_rfl))) hx6 g6⟩
        · rintro u done' W' hd hanc hclo ⟨hk, hR⟩
          have e1 := hk.get 1 rfl (hanc 1 (mem_of (by kernel_rfl)))
          have g8 := hR.gr (not_done hclo hd 8 rfl (by kernel_rfl))
          have hex := hR.ext hd (hanc 6 (mem_of (by kernel_rfl)))
          obtain ⟨xa, xc, e6, hxi, _⟩ := hex.ints (by simp; have := hx.lt; have := hx.len; omega)
          rw [e6] at hex
          rw [HXL.out] at e6 hxi hex
          have HCON := Lib.hid (IH.out xa (n + 1) xc (pre ++ [(m : Int)]) W' (hf.gr (gw.trans g8)) hxi HP2.out (by have := HLK.out; simp; omega) hex.is3)
          refine op_plain (ro := none) rfl (fun c h => by cases h) fun K hK => ?_
          simp only [fillL, List.setIfInBounds_toArray, List.set_cons_zero, List.set_cons_succ, Nat.zero_add, Nat.reduceAdd, e1, e6] at hK ⊢
          go_simp
          refine HCON.out.mono ?_
          rintro e w6 ⟨x, rfl, hx6, g6⟩
          exact hK _ _ ⟨hk.skip rfl, hR.called (hanc 6 (mem_of (by kernel_rfl))) (not_done hclo hd 8 rfl (by kernel_rfl)) (not_done hclo hd 9 rfl (by kernel_rfl)) (hR.old (not_done hclo hd 9 rfl (by kernel_rfl))) hx6 g6⟩
        · rintro u done' W' hd hanc hclo ⟨hk, hR⟩
          have e0 := hk.get 0 rfl (hanc 0 (mem_of (by kernel_rfl)))
          have g8 := hR.gr hd
          obtain ⟨B2, hrc⟩ := hR.rc hd (hanc 7 (mem_of (by kernel_rfl)))
          refine op_plain (ro := none) rfl (fun c h => by cases h) fun K hK => ?_
          simp only [fillL, List.setIfInBounds_toArray, List.set_cons_zero, List.set_cons_succ, Nat.zero_add, Nat.reduceAdd, e0] at hK ⊢
          generalize u 7 = u7 at *
          refine wp_pushAll (w1 := w2) (v := vv) (v2 := u7) (L := enumTo2 f k pre m) (M := enumR f k (pre ++ [(m : Int)])) rfl rfl rfl (hO.gr g8) hrc (gr.trans g8) (by omega) (by omega) ?_
          intro x w6 hx6 g6
          exact hK _ _ ⟨hk.skip rfl, R81.joined (hanc 6 (mem_of (by kernel_rfl))) (hanc 7 (mem_of (by kernel_rfl))) (not_done hclo hd 9 rfl (by kernel_rfl)) (hR.old (not_done hclo hd 9 rfl (by kernel_rfl))) hx6 g6⟩
        · rintro u done' W' hd hanc hclo ⟨hk, hR⟩
          refine op_plain (ro := none) rfl (fun c h => by cases h) fun K hK => ?_
          simp only [fillL, List.setIfInBounds_toArray, List.set_cons_zero, List.set_cons_succ, Nat.zero_add, Nat.reduceAdd] at hK ⊢
          go_simp
          exact hK _ _ ⟨hk.skip rfl, hR.last (hanc 6 (mem_of (by kernel_rfl))) (hanc 7 (mem_of (by kernel_rfl))) (hanc 8 (mem_of (by kernel_rfl)))⟩
        · rintro u W' ⟨done', hdn, hk, hR⟩
          
          have h8 := hR.fin (hdn 8 (by decide))
          have e9 := hR.out (hdn 9 (by decide))
          generalize u 8 = u8 at *
          simp only [fillL, List.setIfInBounds_toArray, List.set_cons_zero, List.set_cons_succ, Nat.zero_add, Nat.reduceAdd, e9]
          rw [← enumTo2_succ] at h8
          clear hk hdn hR e9
          go_wp2_with fail
          go_roundw
          case rel => exact ⟨m + 1, _, by omega, by go_num, rfl, h8.2, h8.1⟩
          case measure => simp [intOf] <;> omega
      · obtain rfl : m = qn + 1 := by omega
        have HF : Hid (enumTo2 f k pre (qn + 1) = enumR f (k + 1) pre) := Lib.hid (by rw [← HQL.out]; rfl)
        go_wp2_with fail
        go_ret
        rw [← HF.out]
        exact ⟨_, rfl, hO.mono g.size, gw⟩
end
section
open Go.RowKit

/-- every working state, in order -/
def allV (f : Fl) : List (List Int) := enumR f f.times.length []
theorem allV_len {f : Fl} (hok : FlOk f) : (allV f).length ≤ 4096 := by
  have h := enumR_len hok f.times.length [] (by simp)
  have h2 : (4 : Nat) ^ f.times.length ≤ 4 ^ 6 := Nat.pow_le_pow_right (by decide) hok.n6
  unfold allV; omega
theorem states2_nil (ta ca : Option Addr) (tn tc cn cc : Nat) (f : Fl) (w : World) (hok : FlOk f) (hf : FlAt w ta tn ca cn f) :
    Calls Try.prog 81 #[.agg #[.slice ta tn tc, .slice ca cn cc], .slice none 0 0] w (fun e w' => ∃ ra rn rc, e = .returned (.slice ra rn rc) ∧ RowsAt w' ra rn (allV f) ∧ Gr w w') := by
  refine (states2_any f hok ta ca tn tc cn cc f.times.length none 0 0 [] w hf (Ints.nil _) (fun c hc => by simp at hc) (by simp) (fun ad e => by cases e)).mono ?_
  rintro e w' ⟨v, rfl, ho, g⟩
  obtain ⟨a, c, rfl, hr, _⟩ := ho.rows (by have := allV_len hok; unfold allV at this; omega)
  exact ⟨a, _, c, rfl, hr, g⟩
end
section
open Go.RowKit

theorem chkE_zero {f : Fl} (h : chkE f = 0) : chkB f = true := by
  unfold chkE at h
  split at h
  · assumption
  · cases h
def cntV (f : Fl) : Int := if chkE f = 0 then ((allV f).length : Int) else 0

set_option maxRecDepth 100000 in
set_option maxHeartbeats 400000 in
theorem count2_any (ta ca : Option Addr) (tn tc cn cc : Nat) (f : Fl) (w : World) (hf : FlAt w ta tn ca cn f) :
    Calls Try.prog 41 #[.agg #[.slice ta tn tc, .slice ca cn cc]] w fun e w' => e = .returned (.tuple #[.int .i64 (cntV f), .int .i64 (chkE f)]) ∧ Gr w w' := by
  have G := Gr.refl w
  refine X.calls 13 Try.func41 rfl rfl ?_
  intro ac F0
  have F : Fr ac 13 [(0, .agg #[.slice ta tn tc, .slice ca cn cc])] := F0.sub _ (by kernel_rfl)
  clear F0
  refine wp_seq ?_
  refine wp_region_lit ?_
  refine X.pval F (X.w0 rfl) rfl (X.box rfl (F.ev 0 (.agg #[.slice ta tn tc, .slice ca cn cc]) (by kernel_rfl)) X.bx) ?_
  clear F ac
  intro ac F
  have g := Gr.alloc w (.cells #[.slice ta tn tc, .slice ca cn cc] 25)
  have hb := heap_alloc_new w (.cells #[.slice ta tn tc, .slice ca cn cc] 25)
  have hbl : w.heap.size < (w.alloc (.cells #[.slice ta tn tc, .slice ca cn cc] 25)).heap.size := by simp
  have hC2 : RCells (w.alloc (.cells #[.slice ta tn tc, .slice ca cn cc] 25)) [(⟨w.heap.size, 0, none⟩, .slice ta tn tc), (⟨w.heap.size, 1, none⟩, .slice ca cn cc)] := (RCells.nil w).box (b := w.heap.size) #[.slice ta tn tc, .slice ca cn cc] 25 rfl
  generalize w.alloc (.cells #[.slice ta tn tc, .slice ca cn cc] 25) = w3 at *
  replace G := G.trans g
  have hC := hC2
  clear hC2
  replace hf := hf.gr g
  clear g hb hbl
  refine X.pval F (X.w0 rfl) rfl (X.assign rfl (X.kc (.int .i64 0) rfl)) ?_
  clear F ac
  intro ac F
  refine X.pval F (X.w0 rfl) rfl (X.assign rfl (X.kc (.int .i64 0) rfl)) ?_
  clear F ac
  intro ac F
  refine wpList_nil ?_
  replace F : Fr ac 13 [(0, .agg #[.slice ta tn tc, .slice ca cn cc]), (1, .pointer (some ⟨w.heap.size, 0, none⟩)), (2, .int .i64 0), (3, .int .i64 0)] := F.sub _ (by kernel_rfl)
  refine X.thenN ?_
  refine wp_seq ?_
  refine wp_seq ?_
  refine wp_region_lit ?_
  refine X.pval F (X.w0 rfl) rfl (X.load rfl (F.ev 1 (.pointer (some ⟨w.heap.size, 0, none⟩)) (by kernel_rfl)) (X.ldN (Try.agg25 _) (Try.siz25 _) (X.c2 (hC.at 0 rfl) (hC.at 1 rfl)))) ?_
  clear F ac
  intro ac F
  refine X.pcall F (X.w0 rfl) rfl (X.enter (F := 37) rfl (X.kc (.func (.func 37) #[] #[]) rfl) (X.a1 (F.ev 5 (.agg #[.slice ta tn tc, .slice ca cn cc]) (by kernel_rfl))) (enters_of Try.func37 (by kernel_rfl) rfl _)) (check2_any ta ca tn tc cn cc f w3 hf) ?_
  clear F ac
  rintro e w4 ⟨rfl, g⟩
  refine ⟨_, rfl, ?_⟩
  intro ac F
  replace G := G.trans g
  replace hC := hC.gr g
  replace hf := hf.gr g
  clear g
  refine X.pval F (X.w0 rfl) rfl (X.assign rfl (F.ev 6 (.int .i64 (chkE f)) (by kernel_rfl))) ?_
  clear F ac
  intro ac F
  refine wpList_nil ?_
  replace F : Fr ac 13 [(0, .agg #[.slice ta tn tc, .slice ca cn cc]), (1, .pointer (some ⟨w.heap.size, 0, none⟩)), (2, .int .i64 0), (3, .int .i64 0), (4, .int .i64 (chkE f))] := F.sub _ (by kernel_rfl)
  refine X.thenN ?_
  refine wp_seq ?_
  refine wp_region_lit ?_
  refine X.pval F (X.w0 rfl) rfl (X.move rfl (F.ev 4 (.int .i64 (chkE f)) (by kernel_rfl))) ?_
  clear F ac
  intro ac F
  refine X.pval F (X.w0 rfl) rfl (X.binop rfl (F.ev 7 (.int .i64 (chkE f)) (by kernel_rfl)) (X.kc (.int .i64 0) rfl) (X.neqI Try.underlying31 rfl)) ?_
  clear F ac
  intro ac F
  refine wpList_nil ?_
  replace F : Fr ac 13 [(0, .agg #[.slice ta tn tc, .slice ca cn cc]), (1, .pointer (some ⟨w.heap.size, 0, none⟩)), (2, .int .i64 0), (3, .int .i64 0), (4, .int .i64 (chkE f)), (8, .bool ((chkE f : Int) != 0))] := F.sub _ (by kernel_rfl)
  refine X.thenN ?_
  cases h5 : ((chkE f : Int) != 0) with
  | false =>
    try rw [h5] at F
    have h5p : (chkE f : Int) = 0 := by simpa using h5
    have hok : FlOk f := chkB_ok (chkE_zero h5p)
    refine wp_cond_false (F.ev 8 (.bool false) (by kernel_rfl)) ?_
    refine wp_skip ?_
    refine X.thenN ?_
    refine wp_seq ?_
    refine wp_region_lit ?_
    refine X.pval F (X.w0 rfl) rfl (X.load rfl (F.ev 1 (.pointer (some ⟨w.heap.size, 0, none⟩)) (by kernel_rfl)) (X.ldN (Try.agg25 _) (Try.siz25 _) (X.c2 (hC.at 0 rfl) (hC.at 1 rfl)))) ?_
    clear F ac
    intro ac F
    refine X.pcall F (X.w0 rfl) rfl (X.enter (F := 81) rfl (X.kc (.func (.func 81) #[] #[]) rfl) (X.a2 (F.ev 10 (.agg #[.slice ta tn tc, .slice ca cn cc]) (by kernel_rfl)) (X.kc (.slice none 0 0) rfl)) (enters_of Try.func81 (by kernel_rfl) rfl _)) (states2_nil ta ca tn tc cn cc f w4 hok hf) ?_
    clear F ac
    rintro e w7 ⟨ra6, rn6, rc6, rfl, hR6, g⟩
    refine ⟨_, rfl, ?_⟩
    intro ac F
    replace G := G.trans g
    replace hC := hC.gr g
    replace hf := hf.gr g
    clear g
    refine X.pval F (X.w0 rfl) rfl (X.len1 Try.underlying22 rfl (F.ev 11 (.slice ra6 rn6 rc6) (by kernel_rfl))) ?_
    clear F ac
    intro ac F
    refine X.pval F (X.w0 rfl) rfl (X.assign rfl (F.ev 12 (.int .i64 rn6) (by kernel_rfl))) ?_
    clear F ac
    intro ac F
    refine X.pval F (X.w0 rfl) rfl (X.assign rfl (X.kc (.int .i64 0) rfl)) ?_
    clear F ac
    intro ac F
    refine wpList_nil ?_
    replace F : Fr ac 13 [(0, .agg #[.slice ta tn tc, .slice ca cn cc]), (1, .pointer (some ⟨w.heap.size, 0, none⟩)), (2, .int .i64 rn6), (3, .int .i64 0), (4, .int .i64 (chkE f)), (8, .bool false)] := F.sub _ (by kernel_rfl)
    refine X.thenN ?_
    refine wp_ret ?_
    have HV : cntV f = (rn6 : Int) := by unfold cntV; rw [if_pos (by assumption), hR6.len]
    have HE : chkE f = 0 := by assumption
    exact X.ret2 (v := .int .i64 rn6) (x := .int .i64 0) F rfl (by kernel_rfl) (by kernel_rfl) ⟨by rw [HV, HE], G⟩
  | true =>
    try rw [h5] at F
    have h5p : ¬ (chkE f : Int) = 0 := by simpa using h5
    have HV : cntV f = 0 := if_neg h5p
    refine wp_cond_true (F.ev 8 (.bool true) (by kernel_rfl)) ?_
    refine wp_seq ?_
    refine wp_region_lit ?_
    refine X.pval F (X.w0 rfl) rfl (X.move rfl (F.ev 4 (.int .i64 (chkE f)) (by kernel_rfl))) ?_
    clear F ac
    intro ac F
    refine X.pval F (X.w0 rfl) rfl (X.assign rfl (X.kc (.int .i64 0) rfl)) ?_
    clear F ac
    intro ac F
    refine X.pval F (X.w0 rfl) rfl (X.assign rfl (F.ev 9 (.int .i64 (chkE f)) (by kernel_rfl))) ?_
    clear F ac
    intro ac F
    refine wpList_nil ?_
    replace F : Fr ac 13 [(0, .agg #[.slice ta tn tc, .slice ca cn cc]), (1, .pointer (some ⟨w.heap.size, 0, none⟩)), (2, .int .i64 0), (3, .int .i64 (chkE f)), (4, .int .i64 (chkE f)), (8, .bool true)] := F.sub _ (by kernel_rfl)
    refine X.thenN ?_
    refine wp_ret ?_
    refine X.thenR ?_
    exact X.ret2 (v := .int .i64 0) (x := .int .i64 (chkE f)) F rfl (by kernel_rfl) (by kernel_rfl) ⟨by rw [HV], G⟩
end
end Go.Proofs.Ytlilojpnhmfnaaa
