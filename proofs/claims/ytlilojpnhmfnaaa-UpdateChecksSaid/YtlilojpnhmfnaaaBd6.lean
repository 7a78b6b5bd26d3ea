/- Several texts of this claim in one file. (1) Contract: timesOf, at a plan that holds. (2) Contract: CheckPlan. (3) Plain law: what UpdateShortest asks of the planner's way and of any other plan. No program in sight. (4) Contract: the reference's CheckPlan. (5) Lists that a call collects: one more state, a copy of a state. Plain words for Interrupt and Back. (6) Contract: Interrupt. -/
import Derived.Test.YtlilojpnhmfnaaaBd5
import Derived.Deep.Slices
namespace Go.Proofs.Ytlilojpnhmfnaaa
section
open Go.RowKit

def pAt (xs : List Int) (L : List (List Int)) (j : Nat) : List Int := (xs :: L)[j]?.getD []
def planTo (T : List (List Int)) (xs : List Int) (L : List (List Int)) : Nat → Int
  | 0 => 0
  | k + 1 => planTo T xs L k + dur T (pAt xs L k) (pAt xs L (k + 1))
theorem planTo_cons (T : List (List Int)) (xs s : List Int) (r : List (List Int)) : ∀ k, planTo T xs (s :: r) (k + 1) = dur T xs s + planTo T s r k := by
  intro k
  induction k with
  | zero => simp [planTo, pAt]
  | succ k ih => rw [planTo, ih]; simp only [planTo, pAt, List.getElem?_cons_succ]; omega
theorem planTo_all (T : List (List Int)) : ∀ (L : List (List Int)) (xs : List Int), planTo T xs L L.length = planTime T xs L := by
  intro L
  induction L with
  | nil => intro xs; rfl
  | cons s r ih => intro xs; rw [List.length_cons, planTo_cons, ih]; rfl
theorem okPlan_at {f : Fl} {bu : Int} : ∀ (L : List (List Int)) (xs : List Int), okPlan f bu xs L → ∀ k, k < L.length → aboveV (pAt xs L (k + 1)) (pAt xs L k) = true := by
  intro L
  induction L with
  | nil => intro xs _ k hk; simp at hk
  | cons s r ih =>
    intro xs h k hk
    cases k with
    | zero => simpa [pAt] using (stepsB_true h.2.1).1
    | succ k => have := ih s h.2.2 k (by simpa using hk); simpa [pAt] using this

structure PlOk (f : Fl) (bu : Int) (xs : List Int) (L : List (List Int)) : Prop where
  ok : FlOk f
  a : StOk f xs
  l : ∀ j, j < L.length → StOk f (L[j]?.getD [])
  pl : okPlan f bu xs L
  n64 : L.length ≤ 64
theorem PlOk.at {f : Fl} {bu : Int} {xs : List Int} {L : List (List Int)} (h : PlOk f bu xs L) {k : Nat} (hk : k ≤ L.length) : StOk f (pAt xs L k) := by
  cases k with
  | zero => simpa [pAt] using h.a
  | succ k => simpa [pAt] using h.l k (by omega)
theorem PlOk.le {f : Fl} {bu : Int} {xs : List Int} {L : List (List Int)} (h : PlOk f bu xs L) {k : Nat} (hk : k < L.length) : ∀ c, c < f.times.length → (pAt xs L k)[c]?.getD 0 ≤ (pAt xs L (k + 1))[c]?.getD 0 :=
  fun c hc => aboveV_le (okPlan_at L xs h.pl k hk) c (by rw [(h.at (k := k + 1) (by omega)).len]; exact hc)
theorem PlOk.bd {f : Fl} {bu : Int} {xs : List Int} {L : List (List Int)} (h : PlOk f bu xs L) : ∀ k, k ≤ L.length → 0 ≤ planTo f.times xs L k ∧ planTo f.times xs L k ≤ 60000 * k := by
  intro k
  induction k with
  | zero => intro _; simp [planTo]
  | succ k ih =>
    intro hk
    have h1 := ih (by omega)
    have hs := h.at (k := k + 1) (by omega)
    have h2 := durTo_bd h.ok (fun c hc => ((h.at (k := k) (by omega)).ver c hc).1) hs (h.le (k := k) (by omega)) f.times.length (Nat.le_refl _)
    have h6 := h.ok.n6
    simp only [planTo, dur]
    rw [hs.len]
    omega

set_option maxRecDepth 100000 in
set_option maxHeartbeats 4000000 in
theorem timesOf_any (ta ca a pa : Option Addr) (tn tc cn cc n c pn pc : Nat) (f : Fl) (xs : List Int) (L : List (List Int)) (bu : Int) (w : World) (hf : FlAt w ta tn ca cn f) (hx : Ints w a n xs) (hL : RowsAt w pa pn L) (hp : PlOk f bu xs L) :
    Calls Try.prog 24 #[.agg #[.slice ta tn tc, .slice ca cn cc], .slice a n c, .slice pa pn pc] w fun e w' => e = .returned (.int .i64 (planTime f.times xs L)) ∧ Gr w w' := by
  have HP := Lib.hid hp
  have hpl := hL.lt
  have HLL := Lib.hid hL.len
  have htn : tn = f.times.length := hf.t.len.symm
  have HT := Lib.hid htn
  have h6 : tn ≤ 6 := by have := hp.ok.n6; omega
  have h64 : pn ≤ 64 := by have := hp.n64; have := hL.len; omega
  clear htn hp
  go_enter Try.func24, Try.ntmps24
  go_wp2
  obtain ⟨w1, hw1⟩ : ∃ w1, w.alloc (.cells #[.slice ta tn tc, .slice ca cn cc] 25) = w1 := ⟨_, rfl⟩
  have hg1 : Gr w w1 := by rw [← hw1]; exact Gr.alloc _ _
  have hc0 : w1.cell? ⟨w.heap.size, 0, none⟩ = some (.slice ta tn tc) := by rw [← hw1]; simp
  rw [hw1]
  clear hw1
  have hft := hf.t.gr hg1
  have hL1 := hL.gr hg1
  go_loop [7, 8, 9] (fun t p i => ∃ (k : Nat) (sa : Option Addr) (sn sc : Nat), k ≤ pn ∧ i = .int .i64 k ∧ p = .slice sa sn sc ∧ t = .int .i64 (planTo f.times xs L k) ∧ Hid (Ints w1 sa sn (pAt xs L k))) (fun _ _ i => pn - (intOf i).toNat)
  case atStart => exact ⟨0, a, n, c, Nat.zero_le _, rfl, rfl, rfl, Lib.hid (by simpa [pAt] using hx.gr hg1)⟩
  case round =>
    obtain ⟨k, sa, sn, sc, hk, rfl, rfl, rfl, hi⟩ := hrel
    have hkL : k ≤ L.length := by rw [HLL.out]; exact hk
    have hst := HP.out.at hkL
    obtain rfl : sn = tn := by rw [← hi.out.len, hst.len, HT.out]
    have hbk := HP.out.bd k hkL
    have HST := Lib.hid hst
    clear hst
    by_cases hlt : k < pn
    · obtain ⟨pp, ra, rn, rc, rfl, hpb, hpc, hri⟩ := hL1.at hlt
      have hsy := HP.out.at (k := k + 1) (by rw [HLL.out]; exact hlt)
      have hry : pAt xs L (k + 1) = L[k]?.getD [] := by simp [pAt]
      have hri2 : Ints w1 ra rn (pAt xs L (k + 1)) := by rw [hry]; exact hri
      obtain rfl : rn = sn := by rw [← hri2.len, hsy.len, HT.out]
      have hle := HP.out.le (k := k) (by rw [HLL.out]; exact hlt)
      have HLE := Lib.hid hle
      have HSY := Lib.hid hsy
      have HBD := Lib.hid (durTo_bd HP.out.ok (fun c hc => (HST.out.ver c hc).1) hsy hle)
      have HNX : Hid (planTo f.times xs L (k + 1) = planTo f.times xs L k + durTo f.times (pAt xs L k) (pAt xs L (k + 1)) rn) := Lib.hid (by rw [planTo, dur, hsy.len, HT.out])
      clear hle hsy hry hri
      go_wp2
      generalize hP : planTo f.times xs L k = P0 at *
      generalize hA : pAt xs L k = A at *
      generalize hB : pAt xs L (k + 1) = B at *
      go_loop [7, 10] (fun t i => ∃ j : Nat, j ≤ rn ∧ i = .int .i64 j ∧ t = .int .i64 (P0 + durTo f.times A B j)) (fun _ i => rn - (intOf i).toNat)
      case atStart => exact ⟨0, Nat.zero_le _, rfl, by simp [durTo]⟩
      case round =>
        obtain ⟨j, hj, rfl, rfl⟩ := hrel
        have hb := HBD.out j (by rw [← HT.out]; exact hj)
        by_cases hlj : j < rn
        · obtain ⟨aa, rfl, hab, hac⟩ := hi.out.at hlj
          obtain ⟨bb, rfl, hbb, hbc⟩ := hri2.at hlj
          by_cases hc : B[j]?.getD 0 = A[j]?.getD 0
          · have hcb : (B[j]?.getD 0 != A[j]?.getD 0) = false := by simp [hc]
            have HC := Lib.hid hc
            clear hc
            go_wp2
            go_round
            case rel => exact ⟨j + 1, by omega, by go_num, by simp [durTo, HC.out]⟩
            case measure => simp [intOf]; omega
          · have hcb : (B[j]?.getD 0 != A[j]?.getD 0) = true := by simp [hc]
            obtain ⟨tt, qa, qn, qc, rfl, htb, htc, hqi⟩ := hft.at (j := j) hlj
            have hkl : j < f.times.length := by rw [← HT.out]; exact hlj
            have hv0 := (HST.out.ver j hkl).1
            have hvl := HLE.out j hkl
            have hv1 : 1 ≤ B[j]?.getD 0 := by omega
            have hv3 := (HSY.out.ver j hkl).2
            have hql := hqi.len
            have hv4 : B[j]?.getD 0 ≤ qn := by omega
            have hv2 : B[j]?.getD 0 - 1 < qn := by omega
            have htm := tm_bd HP.out.ok hkl hv1 hv3
            have HS : Hid (durTo f.times A B (j + 1) = durTo f.times A B j + tm f.times j (B[j]?.getD 0)) := Lib.hid (by simp [durTo, hc])
            have hrl := hqi.lt
            obtain ⟨rr, rfl, hrb, hrc⟩ := hqi.at (j := (B[j]?.getD 0).toNat - 1) (by omega)
            have hrc' : w1.cell? (rr.add ((B[j]?.getD 0).toNat - 1)) = some (.int .i64 (tm f.times j (B[j]?.getD 0))) := hrc
            clear hc hrc hv0 hvl hv3 hql
            go_wp2
            go_round
            case rel => exact ⟨j + 1, by omega, by go_num, by rw [HS.out, Int.add_assoc]⟩
            case measure => simp [intOf]; omega
        · obtain rfl : j = rn := by omega
          go_wp2
          go_round
          case rel => exact ⟨k + 1, ra, j, rc, by omega, by go_num, rfl, by rw [HNX.out], Lib.hid (by rw [hB]; exact hri2)⟩
          case measure => simp [intOf]; omega
    · obtain rfl : k = pn := by omega
      go_wp2
      go_ret
      exact ⟨ret_int (by rw [← planTo_all, HLL.out]), hg1⟩
end
section
open Go.RowKit

theorem beginE_all {f : Fl} {bu : Int} {a : List Int} {L : List (List Int)} (h : beginE f bu (a :: L) = 0) : FlOk f ∧ StOk f a ∧ ∀ j, j < L.length → StOk f (L[j]?.getD []) := by
  have hz : statesE f (a :: L) = 0 := by
    unfold beginE at h
    by_cases hz : statesE f (a :: L) = 0
    · exact hz
    · rw [if_neg hz] at h; exact absurd h hz
  obtain ⟨hchk, hsts⟩ := statesE_zero hz
  simp only [stsB, List.all_eq_true, List.mem_range] at hsts
  refine ⟨chkB_ok hchk, stB_ok (by simpa using hsts 0 (by simp)), fun j hj => stB_ok ?_⟩
  have := hsts (j + 1) (by simp; omega)
  simpa using this

set_option maxRecDepth 100000 in
set_option maxHeartbeats 4000000 in
theorem checkPlan_any (ta ca a pa : Option Addr) (tn tc cn cc n c pn pc : Nat) (f : Fl) (xs : List Int) (L : List (List Int)) (bu : Int) (w : World) (hf : FlAt w ta tn ca cn f) (hx : Ints w a n xs) (hL : RowsAt w pa pn L) :
    Calls Try.prog 23 #[.agg #[.slice ta tn tc, .slice ca cn cc], .slice a n c, .slice pa pn pc, .int .i64 bu] w fun e w' => e = .returned (.tuple #[.int .i64 (cpR f xs L bu).1, .int .i64 (cpR f xs L bu).2]) ∧ Gr w w' := by
  have g1 := Gr.alloc w (.cells #[.slice ta tn tc, .slice ca cn cc] 25)
  have c0 := cell_new (w := w) (t := 25) (cs := #[.slice ta tn tc, .slice ca cn cc]) (j := 0) rfl
  have c1 := cell_new (w := w) (t := 25) (cs := #[.slice ta tn tc, .slice ca cn cc]) (j := 1) rfl
  obtain ⟨w1, hw1⟩ : ∃ w1, w.alloc (.cells #[.slice ta tn tc, .slice ca cn cc] 25) = w1 := ⟨_, rfl⟩
  rw [hw1] at g1 c0 c1
  have HC := Lib.hid (check_any ta ca tn tc cn cc f w1 (hf.gr g1))
  have hpl := hL.lt
  by_cases he : chkE f = 0
  · have heb : (chkE f != 0) = false := by simp [he]
    by_cases h64 : 64 < pn
    · have HP : Hid (cpR f xs L bu = (0, 1)) := Lib.hid (by unfold cpR cpPre; rw [if_pos he, hL.len, if_pos h64]; rfl)
      clear he
      go_enter Try.func23, Try.ntmps23
      go_wp2_with fail
      refine HC.out.mono ?_
      rintro e w3 ⟨rfl, g3⟩
      go_wp2_with fail
      go_ret2
      exact ⟨by rw [HP.out]; rfl, g1.trans g3⟩
    have HPRE : Hid (cpPre f xs L bu = beginE f bu (xs :: L)) := Lib.hid (by unfold cpPre; rw [if_pos he, hL.len, if_neg h64])
    have HE := Lib.hid he
    clear he
    go_enter Try.func23, Try.ntmps23
    go_wp2_with fail
    refine HC.out.mono ?_
    rintro e w3 ⟨rfl, g3⟩
    have G3 := g1.trans g3
    have d0 := (g3.cell (lt_cell c0)).trans c0
    have d1 := (g3.cell (lt_cell c1)).trans c1
    clear hw1 c0 c1 HC g1 g3
    have c0 := d0
    have c1 := d1
    clear d0 d1
    have hf3 := hf.gr G3
    have hx3 := hx.gr G3
    have hL3 := hL.gr G3
    go_wp2_with fail
    refine (wpIn_wide (n := 0)).1 ?_
    refine region_inv (F := Fence.wide) (by kernel_rfl) (by rfl) (by decide) (fun _ => trivial)
      (fun done' u W' => Kn [some (.agg #[.slice ta tn tc, .slice ca cn cc]), some (.int .i64 bu), some (.slice a n c), none, some (.slice pa pn pc), none, some (.int .i64 (beginE f bu (xs :: L))), some (.int .i64 (beginE f bu (xs :: L)))] done' u ∧ R23 w3 (.slice a n c) xs L (pn + 1) done' u W')
      (fun u => ⟨Kn.start _ _, R23.start w3 (.slice a n c) xs L (pn + 1) u⟩) ⟨?_, ?_, ?_, ?_, ?_, ?_, ?_, ?_, trivial⟩ ?_
    · rintro u done' W' hd hanc hclo ⟨hk, hR⟩
      have c_c0 := (hR.gr.cell (lt_cell c0)).trans c0
      have c_c1 := (hR.gr.cell (lt_cell c1)).trans c1
      refine op_plain (ro := none) rfl (fun c h => by cases h) fun K hK => ?_
      simp only [fillL, List.setIfInBounds_toArray, List.set_cons_zero, List.set_cons_succ, Nat.zero_add, Nat.reduceAdd] at hK ⊢
      go_simp
      exact hK _ _ ⟨hk.new rfl, hR.quiet (by decide) (by decide)⟩
    · rintro u done' W' hd hanc hclo ⟨hk, hR⟩
      refine op_plain (ro := none) rfl (fun c h => by cases h) fun K hK => ?_
      simp only [fillL, List.setIfInBounds_toArray, List.set_cons_zero, List.set_cons_succ, Nat.zero_add, Nat.reduceAdd] at hK ⊢
      go_simp
      exact hK _ _ ⟨hk.new rfl, hR.quiet (by decide) (by decide)⟩
    · rintro u done' W' hd hanc hclo ⟨hk, hR⟩
      refine op_plain (ro := none) rfl (fun c h => by cases h) fun K hK => ?_
      simp only [fillL, List.setIfInBounds_toArray, List.set_cons_zero, List.set_cons_succ, Nat.zero_add, Nat.reduceAdd] at hK ⊢
      go_simp
      exact hK _ _ ⟨hk.new rfl, hR.quiet (by decide) (by decide)⟩
    · rintro u done' W' hd hanc hclo ⟨hk, hR⟩
      have e2 := hk.get 2 rfl (hanc 2 (mem_of (by kernel_rfl)))
      refine op_plain (ro := none) rfl (fun c h => by cases h) fun K hK => ?_
      simp only [fillL, List.setIfInBounds_toArray, List.set_cons_zero, List.set_cons_succ, Nat.zero_add, Nat.reduceAdd, e2] at hK ⊢
      go_simp
      exact hK _ _ ⟨hk.skip rfl, hR.made (not_done hclo hd 5 rfl (by kernel_rfl))⟩
    · rintro u done' W' hd hanc hclo ⟨hk, hR⟩
      refine op_plain (ro := none) rfl (fun c h => by cases h) fun K hK => ?_
      simp only [fillL, List.setIfInBounds_toArray, List.set_cons_zero, List.set_cons_succ, Nat.zero_add, Nat.reduceAdd] at hK ⊢
      go_simp
      exact hK _ _ ⟨hk.new rfl, hR.quiet (by decide) (by decide)⟩
    · rintro u done' W' hd hanc hclo ⟨hk, hR⟩
      have e4 := hk.get 4 rfl (hanc 4 (mem_of (by kernel_rfl)))
      have h3 := hanc 3 (mem_of (by kernel_rfl))
      obtain ⟨g0, e3, hge, hg0⟩ := hR.one hd h3
      refine op_plain (ro := none) rfl (fun c h => by cases h) fun K hK => ?_
      simp only [fillL, List.setIfInBounds_toArray, List.set_cons_zero, List.set_cons_succ, Nat.zero_add, Nat.reduceAdd, e3, e4] at hK ⊢
      refine cp_append (sa := a) (n := n) (c := c) (xs := xs) (L := L) (pa := pa) (pn := pn) (pc := pc) (g := g0) (w3 := w3) rfl rfl rfl hg0 hge hR.gr hx3 hL3 (by omega) ?_
      intro ra rc w6 hrows g6
      exact hK _ _ ⟨hk.skip rfl, hR.app hrows g6⟩
    · rintro u done' W' hd hanc hclo ⟨hk, hR⟩
      have e0 := hk.get 0 rfl (hanc 0 (mem_of (by kernel_rfl)))
      have e1 := hk.get 1 rfl (hanc 1 (mem_of (by kernel_rfl)))
      have h5 := hanc 5 (mem_of (by kernel_rfl))
      obtain ⟨ra, rc, e5, hrows⟩ := hR.all h5
      have HCON := Lib.hid (begin_any ta ca ra tn tc cn cc (pn + 1) rc f bu (xs :: L) W' (hf3.gr hR.gr) hrows)
      refine op_plain (ro := none) rfl (fun c h => by cases h) fun K hK => ?_
      simp only [fillL, List.setIfInBounds_toArray, List.set_cons_zero, List.set_cons_succ, Nat.zero_add, Nat.reduceAdd, e0, e1, e5] at hK ⊢
      go_simp
      refine HCON.out.mono ?_
      rintro e w6 ⟨rfl, g6⟩
      exact hK _ _ ⟨hk.new rfl, hR.call h5 g6⟩
    · rintro u done' W' hd hanc hclo ⟨hk, hR⟩
      have e6 := hk.get 6 rfl (hanc 6 (mem_of (by kernel_rfl)))
      refine op_plain (ro := none) rfl (fun c h => by cases h) fun K hK => ?_
      simp only [fillL, List.setIfInBounds_toArray, List.set_cons_zero, List.set_cons_succ, Nat.zero_add, Nat.reduceAdd, e6] at hK ⊢
      go_simp
      exact hK _ _ ⟨hk.new rfl, hR.quiet (by decide) (by decide)⟩
    · rintro u W' ⟨done', hdn, hk, hR⟩
      have e7 := hk.get 7 rfl (hdn 7 (by decide))
      have hg4 := hR.gr
      simp only [fillL, List.setIfInBounds_toArray, List.set_cons_zero, List.set_cons_succ, Nat.zero_add, Nat.reduceAdd, e7]
      clear hk hdn hR e7
      have G4 := G3.trans hg4
      have k0 := (hg4.cell (lt_cell c0)).trans c0
      have k1 := (hg4.cell (lt_cell c1)).trans c1
      clear c0 c1
      by_cases hbe : beginE f bu (xs :: L) = 0
      · have hbb : (beginE f bu (xs :: L) != 0) = false := by simp [hbe]
        have hok := (beginE_all hbe).1
        have hst := (beginE_all hbe).2.1
        have hall := (beginE_all hbe).2.2
        have hnt : n = f.times.length := by rw [← hst.len, hx.len]
        have HPR : Hid (cpR f xs L bu = if worksB f xs then cpLoop f bu xs L 0 else (-1, 111)) := Lib.hid (by unfold cpR; rw [HPRE.out, if_pos hbe])
        have HNT := Lib.hid hnt
        have HALL := Lib.hid hall
        have HBE := Lib.hid hbe
        clear hbe hnt hall
        have HW := Lib.hid (works_any ta ca a tn tc cn cc n c f xs W' (hf.gr G4) hok (hx.gr G4) hst)
        go_wp2_with fail
        refine HW.out.mono ?_
        rintro e w5 ⟨rfl, g5⟩
        have G5 := G4.trans g5
        have j0 := (g5.cell (lt_cell k0)).trans k0
        have j1 := (g5.cell (lt_cell k1)).trans k1
        clear k0 k1 HW
        cases hwx : worksB f xs with
        | false =>
          have HP : Hid (cpR f xs L bu = (-1, 111)) := Lib.hid (by rw [HPR.out, hwx]; rfl)
          go_wp2_with fail
          go_ret2
          exact ⟨by rw [HP.out]; rfl, G5⟩
        | true =>
          have HP : Hid (cpR f xs L bu = cpLoop f bu xs L 0) := Lib.hid (by rw [HPR.out, hwx]; rfl)
          clear HPR
          have hpn := hL.lt
          go_wp2_with fail
          go_loopw [1, 38] (fun s i wr => ∃ (k : Nat) (p : List Int) (qa : Option Addr) (qc : Nat), k ≤ pn ∧ i = .int .i64 k ∧ s = .slice qa n qc ∧ Gr w wr ∧ Ints wr qa n p ∧ StOk f p ∧ wr.cell? ⟨w.heap.size, 0, none⟩ = some (.slice ta tn tc) ∧ wr.cell? ⟨w.heap.size, 1, none⟩ = some (.slice ca cn cc) ∧ Hid (cpLoop f bu xs L 0 = cpLoop f bu p (L.drop k) k)) (fun _ i _ => pn - (intOf i).toNat)
          case atStart => exact ⟨0, xs, a, c, Nat.zero_le _, rfl, rfl, G5, hx.gr G5, hst, j0, j1, Lib.hid (by simp)⟩
          case round =>
            obtain ⟨k, p, qa, qc, hk, rfl, rfl, gr, hp, hps, m0, m1, HL⟩ := hrel
            by_cases hlt : k < pn
            · obtain ⟨pd, ya, yn, yc, rfl, hpb, hpc, hyi⟩ := (hL.gr gr).at hlt
              have hys : StOk f (L[k]?.getD []) := HALL.out k (by rw [hL.len]; exact hlt)
              have hyn : yn = n := by rw [← hyi.len, hys.len]; exact HNT.out.symm
              subst hyn
              have hdr : Hid (L.drop k = (L[k]?.getD []) :: L.drop (k + 1)) := Lib.hid (by
                have hl : k < L.length := by rw [hL.len]; exact hlt
                rw [List.drop_eq_getElem_cons hl]; simp [hl])
              generalize L[k]?.getD [] = y at *
              have HW := Lib.hid (works_any ta ca ya tn tc cn cc yn yc f y wr (hf.gr gr) hok hyi hys)
              go_wp2_with fail
              refine HW.out.mono ?_
              rintro e w6 ⟨rfl, g6⟩
              have G6 := gr.trans g6
              have q0 := (g6.cell (lt_cell m0)).trans m0
              have q1 := (g6.cell (lt_cell m1)).trans m1
              clear HW m0 m1
              cases hwy : worksB f y with
              | false =>
                have HF : Hid (cpR f xs L bu = ((k : Int), 111)) := Lib.hid (by rw [HP.out, HL.out, hdr.out]; simp [cpLoop, hwy])
                go_wp2_with fail
                go_ret2
                exact ⟨by rw [HF.out]; rfl, G6⟩
              | true =>
                have HS := Lib.hid (steps_any ta ca qa ya tn tc cn cc yn qc yc f p y bu w6 (hf.gr G6) hok (hp.gr g6) (hyi.gr g6) hps hys)
                go_wp2_with fail
                refine HS.out.mono ?_
                rintro e w7 ⟨rfl, g7⟩
                have G7 := G6.trans g7
                have q2 := (g7.cell (lt_cell q0)).trans q0
                have q3 := (g7.cell (lt_cell q1)).trans q1
                clear HS q0 q1
                cases hsy : stepsB f.times p y bu with
                | false =>
                  have HF : Hid (cpR f xs L bu = ((k : Int), 112)) := Lib.hid (by rw [HP.out, HL.out, hdr.out]; simp [cpLoop, hwy, hsy])
                  go_wp2_with fail
                  go_ret2
                  exact ⟨by rw [HF.out]; rfl, G7⟩
                | true =>
                  have HF : Hid (cpLoop f bu xs L 0 = cpLoop f bu y (L.drop (k + 1)) ((k + 1 : Nat) : Int)) := Lib.hid (by rw [HL.out, hdr.out]; simp [cpLoop, hwy, hsy])
                  have hy7 := (hyi.gr g6).gr g7
                  go_wp2_with fail
                  go_roundw
                  case rel => exact ⟨k + 1, y, ya, yc, by omega, by go_num, rfl, G7, hy7, hys, q2, q3, HF⟩
                  case measure => simp [intOf]; omega
            · obtain rfl : k = pn := by omega
              have HF : Hid (cpR f xs L bu = (0, 0)) := Lib.hid (by rw [HP.out, HL.out, List.drop_eq_nil_of_le (by rw [hL.len]; exact Nat.le_refl _)]; rfl)
              go_wp2_with fail
              go_ret2
              exact ⟨by rw [HF.out]; rfl, gr⟩
      · have hbb : (beginE f bu (xs :: L) != 0) = true := by simp [hbe]
        have HP : Hid (cpR f xs L bu = (0, beginE f bu (xs :: L))) := Lib.hid (by unfold cpR; rw [HPRE.out, if_neg hbe])
        clear hbe
        go_wp2_with fail
        go_ret2
        exact ⟨by rw [HP.out]; rfl, G4⟩
  · have heb : (chkE f != 0) = true := by simp [he]
    have HP : Hid (cpR f xs L bu = (0, chkE f)) := Lib.hid (by unfold cpR cpPre; rw [if_neg he, if_neg he])
    clear he
    go_enter Try.func23, Try.ntmps23
    go_wp2_with fail
    refine HC.out.mono ?_
    rintro e w3 ⟨rfl, g3⟩
    go_wp2_with fail
    go_ret2
    exact ⟨by rw [HP.out]; rfl, g1.trans g3⟩
end
section
theorem StOk.b {f : Fl} {s : List Int} (h : StOk f s) : stB f.times s = true := by
  refine stB_true h.len fun c hc => ?_
  have hc' : c < f.times.length := by rw [← h.len]; exact hc
  have := h.ver c hc'
  simp only [verB, Bool.and_eq_true, decide_eq_true_eq, Int.toNat_natCast]
  omega

theorem cpR_pl {f : Fl} {xs : List Int} {L : List (List Int)} {bu : Int} (h : (cpR f xs L bu).2 = 0) : PlOk f bu xs L := by
  unfold cpR at h
  by_cases hp : cpPre f xs L bu = 0
  · rw [if_pos hp] at h
    have hp2 := hp
    unfold cpPre at hp
    by_cases hc : chkE f = 0
    · rw [if_pos hc] at hp
      by_cases h64 : 64 < L.length
      · rw [if_pos h64] at hp; omega
      · rw [if_neg h64] at hp
        obtain ⟨h1, h2, h3⟩ := beginE_all hp
        cases hw : worksB f xs with
        | false => rw [hw] at h; simp at h
        | true =>
          rw [hw, if_pos rfl] at h
          exact ⟨h1, h2, h3, (cpLoop_ok L xs 0).1 h, by omega⟩
    · rw [if_neg hc] at hp; exact absurd hp hc
  · rw [if_neg hp] at h; exact absurd h hp

theorem path_len {f : Fl} {to : List Int} {bu : Int} (hto : StOk f to) : ∀ (k : Nat) (s : List Int), gap s to ≤ k → StOk f s → (bestV f to bu s).is = true → (pathV f to bu s).length ≤ k := by
  intro k
  induction k with
  | zero =>
    intro s hk hs hi
    have hl : s.length = to.length := by rw [hs.len, hto.len]
    by_cases he : s = to
    · subst he; rw [pathV_end]; simp
    · have := next_gap hl he hi; omega
  | succ k ih =>
    intro s hk hs hi
    have hl : s.length = to.length := by rw [hs.len, hto.len]
    by_cases he : s = to
    · subst he; rw [pathV_end]; simp
    · obtain ⟨h1, h2, h3⟩ := bestV_next hl he hi
      have hg := next_gap hl he hi
      rw [pathV_step hl he hi]
      have := ih _ (by omega) (hs.btw hto (enum_between h1).1) h3
      simp; omega

theorem pl_at {f : Fl} {L : List (List Int)} (h : ∀ x ∈ L, StOk f x) : ∀ j, j < L.length → StOk f (L[j]?.getD []) := fun j hj => by
  have : L[j]?.getD [] = L[j] := by simp [hj]
  rw [this]; exact h _ (List.getElem_mem hj)
theorem pl_mem {f : Fl} {L : List (List Int)} (h : ∀ j, j < L.length → StOk f (L[j]?.getD [])) : ∀ x ∈ L, StOk f x := fun x hx => by
  obtain ⟨j, hj, rfl⟩ := List.getElem_of_mem hx
  have := h j hj
  simpa [hj] using this

/-- the planner's way holds, arrives, and passes CheckPlan -/
theorem planV_holds {f : Fl} {xs ys : List Int} {bu : Int} (h : planE f xs ys bu = 0) : PlOk f bu xs (planV f xs ys bu) ∧ lastOf xs (planV f xs ys bu) = ys ∧ (cpR f xs (planV f xs ys bu) bu).2 = 0 ∧
    ((planV f xs ys bu).length : Int) = (bestV f ys bu xs).steps ∧ planTime f.times xs (planV f xs ys bu) = (bestV f ys bu xs).time := by
  have hv : planV f xs ys bu = pathV f ys bu xs := by unfold planV; rw [if_pos h]
  rw [hv]
  unfold planE at h
  by_cases hp : plannedE f xs ys bu = 0
  · rw [if_pos hp] at h
    have hi : (bestV f ys bu xs).is = true := by
      cases hi : (bestV f ys bu xs).is with
      | true => rfl
      | false => rw [hi] at h; simp at h
    obtain ⟨hb, hwx, _⟩ := plannedE_ok hp
    obtain ⟨hok, hsx, hsy⟩ := beginE_ok hb
    obtain ⟨k1, k2, k3, k4, k5⟩ := path_ok (f := f) (bu := bu) hsy (gap xs ys) xs (Nat.le_refl _) hsx hi
    have hlen := path_len (f := f) (bu := bu) hsy (gap xs ys) xs (Nat.le_refl _) hsx hi
    have hgap : gap xs ys ≤ 18 := by
      have := gapTo_bd hok hsx hsy f.times.length (Nat.le_refl _)
      have h6 := hok.n6
      unfold gap; rw [hsy.len]; omega
    have hPl : PlOk f bu xs (pathV f ys bu xs) := ⟨hok, hsx, pl_at k5, k1, by omega⟩
    refine ⟨hPl, k2, ?_, k3, k4⟩
    have hz : statesE f [xs, ys] = 0 := by
      unfold beginE at hb
      by_cases hz : statesE f [xs, ys] = 0
      · exact hz
      · rw [if_neg hz] at hb; exact absurd hb hz
    have hchk := (statesE_zero hz).1
    have hz2 : statesE f (xs :: pathV f ys bu xs) = 0 := statesE_ok hchk (fun j hj => by
      cases j with
      | zero => simpa using hsx.b
      | succ j => simpa using (hPl.l j (by simpa using hj)).b)
    have hb2 : beginE f bu (xs :: pathV f ys bu xs) = 0 := by
      unfold beginE at hb ⊢
      rw [if_pos hz] at hb
      rw [if_pos hz2]; exact hb
    have hpre : cpPre f xs (pathV f ys bu xs) bu = 0 := by
      have h0 : chkE f = 0 := by unfold chkE; rw [if_pos hchk]
      have h64 : ¬ 64 < (pathV f ys bu xs).length := by omega
      unfold cpPre; rw [if_pos h0, if_neg h64, hb2]
    unfold cpR
    rw [if_pos hpre, hwx, if_pos rfl]
    exact (cpLoop_ok _ _ _).2 k1
  · rw [if_neg hp] at h; exact absurd h hp

/-- no plan is shorter -/
theorem no_shorter {f : Fl} {xs ys : List Int} {bu : Int} {Q : List (List Int)} (hp : planE f xs ys bu = 0) (hq : PlOk f bu xs Q) (hl : lastOf xs Q = ys) :
    (planV f xs ys bu).length < Q.length ∨ ((planV f xs ys bu).length = Q.length ∧ planTime f.times xs (planV f xs ys bu) ≤ planTime f.times xs Q) := by
  obtain ⟨h1, h2, h3, h4, h5⟩ := planV_holds hp
  unfold planE at hp
  by_cases hpp : plannedE f xs ys bu = 0
  · obtain ⟨hb, _, _⟩ := plannedE_ok hpp
    obtain ⟨hok, hsx, hsy⟩ := beginE_ok hb
    have := best_min (bu := bu) hok hsy Q xs hsx (pl_mem hq.l) hq.pl hl
    omega
  · rw [if_neg hpp] at hp; exact absurd hp hpp

/-- where there is no plan, no plan holds and arrives -/
theorem no_plan {f : Fl} {xs ys : List Int} {bu : Int} {Q : List (List Int)} (hp : planE f xs ys bu = 112) (hq : PlOk f bu xs Q) (hl : lastOf xs Q = ys) : False := by
  unfold planE at hp
  by_cases hpp : plannedE f xs ys bu = 0
  · rw [if_pos hpp] at hp
    obtain ⟨hb, _, _⟩ := plannedE_ok hpp
    obtain ⟨hok, hsx, hsy⟩ := beginE_ok hb
    have := (best_min (bu := bu) hok hsy Q xs hsx (pl_mem hq.l) hq.pl hl).1
    rw [this, if_pos rfl] at hp; omega
  · rw [if_neg hpp] at hp
    have hne : beginE f bu [xs, ys] ≠ 112 := by
      unfold beginE statesE
      split <;> (try split) <;> (try split) <;> omega
    unfold plannedE at hp
    split at hp
    · split at hp <;> omega
    · exact hne hp

theorem lastOf_at : ∀ (L : List (List Int)) (xs : List Int), 0 < L.length → lastOf xs L = L[L.length - 1]?.getD [] := by
  intro L
  induction L with
  | nil => intro xs h; simp at h
  | cons s r ih =>
    intro xs _
    cases r with
    | nil => rfl
    | cons t r => rw [lastOf, ih s (by simp)]; simp
end
section
open Go.RowKit

theorem dur_zero_iff {f : Fl} (hok : FlOk f) {a b : List Int} (ha : StOk f a) (hb : StOk f b) (h : aboveV b a = true) : 0 ≤ dur f.times a b ∧ (dur f.times a b = 0 ↔ a = b) := by
  have hle : ∀ c, c < f.times.length → a[c]?.getD 0 ≤ b[c]?.getD 0 := fun c hc => aboveV_le h c (by rw [hb.len]; exact hc)
  have h1 := durTo_bd hok (fun c hc => (ha.ver c hc).1) hb hle f.times.length (Nat.le_refl _)
  have h2 := durTo_zero_iff hok (fun c hc => (ha.ver c hc).1) hb hle f.times.length (Nat.le_refl _)
  unfold dur
  rw [hb.len]
  refine ⟨h1.1, h2.trans ⟨fun he => ?_, fun he => by subst he; intros; rfl⟩⟩
  have hl : a.length = b.length := by rw [ha.len, hb.len]
  exact (eqUpto_iff hl).1 (fun j hj => (he j (by rw [← ha.len]; exact hj)).symm)
theorem stepsB_stepV {f : Fl} (hok : FlOk f) {a b : List Int} (ha : StOk f a) (hb : StOk f b) {bu : Int} : stepsB f.times a b bu = true ↔ 0 ≤ stepV f.times a b ∧ stepV f.times a b ≤ bu := by
  unfold stepsB stepV
  cases h : aboveV b a with
  | false => simp
  | true =>
    have := dur_zero_iff hok ha hb h
    by_cases e : a = b
    · have hz := this.2.2 e
      simp [e] at hz ⊢
      simp [hz]
    · have hz : ¬ dur f.times a b = 0 := fun h => e (this.2.1 h)
      simp [e, hz]
      omega
theorem stepsB_false {f : Fl} (hok : FlOk f) {a b : List Int} (ha : StOk f a) (hb : StOk f b) {bu : Int} (h : stepsB f.times a b bu = false) : stepV f.times a b < 0 ∨ bu < stepV f.times a b := by
  have h1 : ¬ (stepsB f.times a b bu = true) := by simp [h]
  rw [stepsB_stepV hok ha hb] at h1
  omega
theorem stepsB_true2 {f : Fl} (hok : FlOk f) {a b : List Int} (ha : StOk f a) (hb : StOk f b) {bu : Int} (h : stepsB f.times a b bu = true) : 0 ≤ stepV f.times a b ∧ stepV f.times a b ≤ bu := (stepsB_stepV hok ha hb).1 h
theorem stepV_dur {f : Fl} (hok : FlOk f) {a b : List Int} (ha : StOk f a) (hb : StOk f b) {bu : Int} (h : stepsB f.times a b bu = true) : stepV f.times a b = dur f.times a b := by
  have h1 := (stepsB_true2 hok ha hb h).1
  unfold stepV at h1 ⊢
  split at h1
  · split at h1
    · omega
    · rename_i h2 h3; rw [if_pos h2, if_neg h3]
  · omega

theorem stsB_cons (T : List (List Int)) (a : List Int) (L : List (List Int)) : stsB T (a :: L) = (stB T a && stsB T L) := by
  unfold stsB
  rw [List.length_cons, List.range_succ_eq_map]
  simp [List.all_map, Function.comp_def]

theorem cpPre_ref {f : Fl} {a : List Int} {L : List (List Int)} {bu : Int} (h0 : chkE f = 0) (h1 : ¬ 64 < L.length) : (stB f.times a = false → cpPre f a L bu = 1) ∧ (stB f.times a = true → ¬ statesE f L = 0 → cpPre f a L bu = statesE f L) ∧
    (stB f.times a = true → statesE f L = 0 → withinB bu 0 1000000 = false → cpPre f a L bu = 1) ∧ (stB f.times a = true → statesE f L = 0 → withinB bu 0 1000000 = true → cpPre f a L bu = 0) := by
  have hc : chkB f = true := by
    cases h : chkB f with
    | true => rfl
    | false => rw [chkE_of_false h] at h0; omega
  have e : cpPre f a L bu = beginE f bu (a :: L) := by unfold cpPre; rw [if_pos h0, if_neg h1]
  have e2 : statesE f (a :: L) = if stB f.times a && stsB f.times L then 0 else 1 := by unfold statesE; rw [if_pos hc, stsB_cons]
  have e3 : statesE f L = if stsB f.times L then 0 else 1 := by unfold statesE; rw [if_pos hc]
  refine ⟨fun hs => ?_, fun hs hl => ?_, fun hs hl hb => ?_, fun hs hl hb => ?_⟩
  · rw [e]; unfold beginE; rw [e2, hs]; simp
  · cases hl2 : stsB f.times L with
    | true => rw [e3, hl2] at hl; simp at hl
    | false => rw [e]; unfold beginE; rw [e2, e3, hs, hl2]; simp
  · cases hl2 : stsB f.times L with
    | true => rw [e]; unfold beginE; rw [e2, hs, hl2, hb]; simp
    | false => rw [e3, hl2] at hl; simp at hl
  · cases hl2 : stsB f.times L with
    | true => rw [e]; unfold beginE; rw [e2, hs, hl2, hb]; simp
    | false => rw [e3, hl2] at hl; simp at hl

set_option maxRecDepth 100000 in
set_option maxHeartbeats 4000000 in
theorem checkPlan2_any (ta ca a pa : Option Addr) (tn tc cn cc n c pn pc : Nat) (f : Fl) (xs : List Int) (L : List (List Int)) (bu : Int) (w : World) (hf : FlAt w ta tn ca cn f) (hx : Ints w a n xs) (hL : RowsAt w pa pn L) :
    Calls Try.prog 29 #[.agg #[.slice ta tn tc, .slice ca cn cc], .slice a n c, .slice pa pn pc, .int .i64 bu] w fun e w' => e = .returned (.tuple #[.int .i64 (cpR f xs L bu).1, .int .i64 (cpR f xs L bu).2]) ∧ Gr w w' := by
  have g1 := Gr.alloc w (.cells #[.slice ta tn tc, .slice ca cn cc] 25)
  have c0 := cell_new (w := w) (t := 25) (cs := #[.slice ta tn tc, .slice ca cn cc]) (j := 0) rfl
  have c1 := cell_new (w := w) (t := 25) (cs := #[.slice ta tn tc, .slice ca cn cc]) (j := 1) rfl
  obtain ⟨w1, hw1⟩ : ∃ w1, w.alloc (.cells #[.slice ta tn tc, .slice ca cn cc] 25) = w1 := ⟨_, rfl⟩
  rw [hw1] at g1 c0 c1
  have HC := Lib.hid (check2_any ta ca tn tc cn cc f w1 (hf.gr g1))
  have hpl := hL.lt
  by_cases he : chkE f = 0
  · have heb : (chkE f != 0) = false := by simp [he]
    by_cases h64 : 64 < pn
    · have HP : Hid (cpR f xs L bu = (0, 1)) := Lib.hid (by unfold cpR cpPre; rw [if_pos he, hL.len, if_pos h64]; rfl)
      clear he
      go_enter Try.func29, Try.ntmps29
      go_wp2_with fail
      refine HC.out.mono ?_
      rintro e w3 ⟨rfl, g3⟩
      go_wp2_with fail
      go_ret2
      exact ⟨by rw [HP.out]; rfl, g1.trans g3⟩
    have hpre := cpPre_ref (a := xs) (bu := bu) he (by rw [hL.len]; exact h64)
    have HPRE := Lib.hid hpre
    have HE := Lib.hid he
    clear he hpre
    go_enter Try.func29, Try.ntmps29
    go_wp2_with fail
    refine HC.out.mono ?_
    rintro e w3 ⟨rfl, g3⟩
    have G3 := g1.trans g3
    have d0 := (g3.cell (lt_cell c0)).trans c0
    have d1 := (g3.cell (lt_cell c1)).trans c1
    clear hw1 c0 c1 HC g1 g3
    have HS := Lib.hid (state_any ta ca a tn tc cn cc n c f xs w3 (hf.gr G3) (hx.gr G3))
    go_wp2_with fail
    refine HS.out.mono ?_
    rintro e w4 ⟨rfl, g4⟩
    have G4 := G3.trans g4
    have e0 := (g4.cell (lt_cell d0)).trans d0
    have e1 := (g4.cell (lt_cell d1)).trans d1
    clear d0 d1 HS g4
    cases hst : stB f.times xs with
    | false =>
      have HP : Hid (cpR f xs L bu = (0, 1)) := Lib.hid (by unfold cpR; rw [HPRE.out.1 hst]; rfl)
      clear hst
      go_wp2_with fail
      go_ret2
      exact ⟨by rw [HP.out]; rfl, G4⟩
    | true =>
      have HSD := Lib.hid (stated_any ta ca pa tn tc cn cc pn pc f L w4 (hf.gr G4) (hL.gr G4))
      have HST := Lib.hid hst
      clear hst
      go_wp2_with fail
      refine HSD.out.mono ?_
      rintro e w5 ⟨rfl, g5⟩
      have G5 := G4.trans g5
      have k0 := (g5.cell (lt_cell e0)).trans e0
      have k1 := (g5.cell (lt_cell e1)).trans e1
      clear e0 e1 HSD g5
      by_cases hl0 : statesE f L = 0
      · have hlb : (statesE f L != 0) = false := by simp [hl0]
        have HL0 := Lib.hid hl0
        clear hl0
        cases hb : withinB bu 0 1000000 with
        | false =>
          have HP : Hid (cpR f xs L bu = (0, 1)) := Lib.hid (by unfold cpR; rw [HPRE.out.2.2.1 HST.out HL0.out hb]; rfl)
          go_wp2_with (go_at_call 63; refine (within2_any _ _ _ _).mono ?_; rintro e w' ⟨rfl, rfl⟩)
          go_ret2
          exact ⟨by rw [HP.out]; rfl, G5⟩
        | true =>
          have hok : FlOk f := chkB_ok (statesE_zero HL0.out).1
          have hst := stB_ok HST.out
          have hall : ∀ j, j < L.length → StOk f (L[j]?.getD []) := by
            have h1 := (statesE_zero HL0.out).2
            simp only [stsB, List.all_eq_true, List.mem_range] at h1
            exact fun j hj => stB_ok (h1 j hj)
          have hnt : n = f.times.length := by rw [← hst.len, hx.len]
          have HPR : Hid (cpR f xs L bu = if worksB f xs then cpLoop f bu xs L 0 else (-1, 111)) := Lib.hid (by unfold cpR; rw [HPRE.out.2.2.2 HST.out HL0.out hb, if_pos rfl])
          have HNT := Lib.hid hnt
          have HALL := Lib.hid hall
          have HOK := Lib.hid hok
          have h0 := clashI_of f xs
          have HW := Lib.hid (clash2_any ta ca a tn tc cn cc n c f xs w5 (hf.gr G5) hok (hx.gr G5) hst)
          clear hnt hall hok HPRE
          go_wp2_with (go_at_call 63; refine (within2_any _ _ _ _).mono ?_; rintro e w' ⟨rfl, rfl⟩)
          refine HW.out.mono ?_
          rintro e w6 ⟨rfl, g6⟩
          have G6 := G5.trans g6
          have j0 := (g6.cell (lt_cell k0)).trans k0
          have j1 := (g6.cell (lt_cell k1)).trans k1
          clear k0 k1 HW g6
          cases hwx : worksB f xs with
          | false =>
            have HP : Hid (cpR f xs L bu = (-1, 111)) := Lib.hid (by rw [HPR.out, hwx]; rfl)
            have h0 := h0.2 hwx
            go_wp2_with fail
            go_ret2
            exact ⟨by rw [HP.out]; rfl, G6⟩
          | true =>
            have HP : Hid (cpR f xs L bu = cpLoop f bu xs L 0) := Lib.hid (by rw [HPR.out, hwx]; rfl)
            have h0 := h0.1 hwx
            clear HPR
            go_wp2_with fail
            go_loopw [12, 13] (fun s i wr => ∃ (k : Nat) (p : List Int) (qa : Option Addr) (qc : Nat), k ≤ pn ∧ i = .int .i64 k ∧ s = .slice qa n qc ∧ Gr w wr ∧ Ints wr qa n p ∧ StOk f p ∧ wr.cell? ⟨w.heap.size, 0, none⟩ = some (.slice ta tn tc) ∧ wr.cell? ⟨w.heap.size, 1, none⟩ = some (.slice ca cn cc) ∧ Hid (cpLoop f bu xs L 0 = cpLoop f bu p (L.drop k) k)) (fun _ i _ => pn - (intOf i).toNat)
            case atStart => exact ⟨0, xs, a, c, Nat.zero_le _, rfl, rfl, G6, hx.gr G6, hst, j0, j1, Lib.hid (by simp)⟩
            case round =>
              obtain ⟨k, p, qa, qc, hk, rfl, rfl, gr, hp, hps, m0, m1, HL⟩ := hrel
              by_cases hlt : k < pn
              · obtain ⟨pd, ya, yn, yc, rfl, hpb, hpc, hyi⟩ := (hL.gr gr).at hlt
                have hys : StOk f (L[k]?.getD []) := HALL.out k (by rw [hL.len]; exact hlt)
                have hyn : yn = n := by rw [← hyi.len, hys.len]; exact HNT.out.symm
                subst hyn
                have hdr : Hid (L.drop k = (L[k]?.getD []) :: L.drop (k + 1)) := Lib.hid (by
                  have hl : k < L.length := by rw [hL.len]; exact hlt
                  rw [List.drop_eq_getElem_cons hl]; simp [hl])
                generalize L[k]?.getD [] = y at *
                obtain ⟨n, hnn⟩ : ∃ n, n = yn := ⟨_, rfl⟩
                subst hnn
                have HCL : Hid (∀ W, Gr wr W → Calls Try.prog 69 #[.agg #[.slice ta tn tc, .slice ca cn cc], .slice ya n yc] W fun e w' => e = .returned (.int .i64 (clashI f y)) ∧ Gr W w') := Lib.hid (fun W g => clash2_any ta ca ya tn tc cn cc n yc f y W (hf.gr (gr.trans g)) HOK.out (hyi.gr g) hys)
                obtain ⟨cb, hge, hcb⟩ : ∃ cb, decide (0 ≤ clashI f y) = cb ∧ Hid ((!cb) = worksB f y) := ⟨_, rfl, Lib.hid (by unfold worksB; by_cases h : clashI f y < 0 <;> simp [h] <;> omega)⟩
                go_wp2_with fail
                refine (wpIn_wide (n := 0)).1 ?_
                refine region_inv (F := Fence.wide) (by kernel_rfl) (by rfl) (by decide) (fun _ => trivial)
                  (fun done' u W' => Kn [some (.agg #[.slice ta tn tc, .slice ca cn cc]), some (.slice (some pd) pn pc), some (.int .i64 k), some (.pointer (some (pd.add k))), some (.slice ya n yc), some (.int .i64 (clashI f y)), some (.bool cb)] done' u ∧ Gr wr W')
                  (fun u => ⟨Kn.start _ _, Gr.drew wr⟩) ⟨?_, ?_, ?_, ?_, ?_, ?_, ?_, trivial⟩ ?_
                · rintro u done' W' hd hanc hclo ⟨hk, hg⟩
                  have c_m0 := (hg.cell (lt_cell m0)).trans m0
                  have c_m1 := (hg.cell (lt_cell m1)).trans m1
                  refine op_plain (ro := none) rfl (fun c h => by cases h) fun K hK => ?_
                  simp only [fillL, List.setIfInBounds_toArray, List.set_cons_zero, List.set_cons_succ, Nat.zero_add, Nat.reduceAdd] at hK ⊢
                  go_simp
                  exact hK _ _ ⟨hk.new rfl, hg⟩
                · rintro u done' W' hd hanc hclo ⟨hk, hg⟩
                  refine op_plain (ro := none) rfl (fun c h => by cases h) fun K hK => ?_
                  simp only [fillL, List.setIfInBounds_toArray, List.set_cons_zero, List.set_cons_succ, Nat.zero_add, Nat.reduceAdd] at hK ⊢
                  go_simp
                  exact hK _ _ ⟨hk.new rfl, hg⟩
                · rintro u done' W' hd hanc hclo ⟨hk, hg⟩
                  refine op_plain (ro := none) rfl (fun c h => by cases h) fun K hK => ?_
                  simp only [fillL, List.setIfInBounds_toArray, List.set_cons_zero, List.set_cons_succ, Nat.zero_add, Nat.reduceAdd] at hK ⊢
                  go_simp
                  exact hK _ _ ⟨hk.new rfl, hg⟩
                · rintro u done' W' hd hanc hclo ⟨hk, hg⟩
                  have e1 := hk.get 1 rfl (hanc 1 (mem_of (by kernel_rfl)))
                  have e2 := hk.get 2 rfl (hanc 2 (mem_of (by kernel_rfl)))
                  refine op_plain (ro := none) rfl (fun c h => by cases h) fun K hK => ?_
                  simp only [fillL, List.setIfInBounds_toArray, List.set_cons_zero, List.set_cons_succ, Nat.zero_add, Nat.reduceAdd, e1, e2] at hK ⊢
                  go_simp
                  exact hK _ _ ⟨hk.new rfl, hg⟩
                · rintro u done' W' hd hanc hclo ⟨hk, hg⟩
                  have e3 := hk.get 3 rfl (hanc 3 (mem_of (by kernel_rfl)))
                  have c_hpc := (hg.cell (lt_cell hpc)).trans hpc
                  refine op_plain (ro := none) rfl (fun c h => by cases h) fun K hK => ?_
                  simp only [fillL, List.setIfInBounds_toArray, List.set_cons_zero, List.set_cons_succ, Nat.zero_add, Nat.reduceAdd, e3] at hK ⊢
                  go_simp
                  exact hK _ _ ⟨hk.new rfl, hg⟩
                · rintro u done' W' hd hanc hclo ⟨hk, hg⟩
                  have e0 := hk.get 0 rfl (hanc 0 (mem_of (by kernel_rfl)))
                  have e4 := hk.get 4 rfl (hanc 4 (mem_of (by kernel_rfl)))
                  have HCON := Lib.hid (HCL.out W' hg)
                  refine op_plain (ro := none) rfl (fun c h => by cases h) fun K hK => ?_
                  simp only [fillL, List.setIfInBounds_toArray, List.set_cons_zero, List.set_cons_succ, Nat.zero_add, Nat.reduceAdd, e0, e4] at hK ⊢
                  go_simp
                  refine HCON.out.mono ?_
                  rintro e w6 ⟨rfl, hg6⟩
                  exact hK _ _ ⟨hk.new rfl, hg.trans hg6⟩
                · rintro u done' W' hd hanc hclo ⟨hk, hg⟩
                  have e5 := hk.get 5 rfl (hanc 5 (mem_of (by kernel_rfl)))
                  refine op_plain (ro := none) rfl (fun c h => by cases h) fun K hK => ?_
                  simp only [fillL, List.setIfInBounds_toArray, List.set_cons_zero, List.set_cons_succ, Nat.zero_add, Nat.reduceAdd, e5] at hK ⊢
                  go_simp
                  exact hK _ _ ⟨hk.new rfl, hg⟩
                · rintro u W' ⟨done', hdn, hk, hg⟩
                  have e6 := hk.get 6 rfl (hdn 6 (by decide))
                  simp only [fillL, List.setIfInBounds_toArray, List.set_cons_zero, List.set_cons_succ, Nat.zero_add, Nat.reduceAdd, e6]
                  clear hk hdn e6
                  have G6 := gr.trans hg
                  have q0 := (hg.cell (lt_cell m0)).trans m0
                  have q1 := (hg.cell (lt_cell m1)).trans m1
                  have qpc := (hg.cell (lt_cell hpc)).trans hpc
                  have g6 := hg
                  clear HCL m0 m1 hpc
                  cases cb with
                  | true =>
                    have hwy : worksB f y = false := by simpa using hcb.out
                    have HF : Hid (cpR f xs L bu = ((k : Int), 111)) := Lib.hid (by rw [HP.out, HL.out, hdr.out]; simp [cpLoop, hwy])
                    clear hwy hcb hge
                    go_wp2_with fail
                    go_ret2
                    exact ⟨by rw [HF.out]; rfl, G6⟩
                  | false =>
                    have hwy : Hid (worksB f y = true) := Lib.hid (by simpa using hcb.out)
                    clear hcb hge
                    have HST : Hid (∀ W, Gr W' W → Calls Try.prog 70 #[.agg #[.slice ta tn tc, .slice ca cn cc], .slice qa n qc, .slice ya n yc] W fun e w' => e = .returned (.int .i64 (stepV f.times p y)) ∧ Gr W w') := Lib.hid (fun W g => step_any ta ca qa ya tn tc cn cc n qc yc f p y W (hf.gr (G6.trans g)) HOK.out (hp.gr (g6.trans g)) (hyi.gr (g6.trans g)) hps hys)
                    clear hg
                    obtain ⟨w6, hw6⟩ : ∃ w6, w6 = W' := ⟨_, rfl⟩
                    subst hw6
                    go_wp2_with fail
                    refine (wpIn_wide (n := 0)).1 ?_
                    refine region_inv (F := Fence.wide) (by kernel_rfl) (by rfl) (by decide) (fun _ => trivial)
                      (fun done' u W' => Kn [some (.agg #[.slice ta tn tc, .slice ca cn cc]), some (.slice qa n qc), some (.slice (some pd) pn pc), some (.int .i64 k), some (.pointer (some (pd.add k))), some (.slice ya n yc), some (.int .i64 (stepV f.times p y)), some (.int .i64 (stepV f.times p y))] done' u ∧ Gr w6 W')
                      (fun u => ⟨Kn.start _ _, Gr.drew w6⟩) ⟨?_, ?_, ?_, ?_, ?_, ?_, ?_, ?_, trivial⟩ ?_
                    · rintro u done' W' hd hanc hclo ⟨hk, hg⟩
                      have c_q0 := (hg.cell (lt_cell q0)).trans q0
                      have c_q1 := (hg.cell (lt_cell q1)).trans q1
                      refine op_plain (ro := none) rfl (fun c h => by cases h) fun K hK => ?_
                      simp only [fillL, List.setIfInBounds_toArray, List.set_cons_zero, List.set_cons_succ, Nat.zero_add, Nat.reduceAdd] at hK ⊢
                      go_simp
                      exact hK _ _ ⟨hk.new rfl, hg⟩
                    · rintro u done' W' hd hanc hclo ⟨hk, hg⟩
                      refine op_plain (ro := none) rfl (fun c h => by cases h) fun K hK => ?_
                      simp only [fillL, List.setIfInBounds_toArray, List.set_cons_zero, List.set_cons_succ, Nat.zero_add, Nat.reduceAdd] at hK ⊢
                      go_simp
                      exact hK _ _ ⟨hk.new rfl, hg⟩
                    · rintro u done' W' hd hanc hclo ⟨hk, hg⟩
                      refine op_plain (ro := none) rfl (fun c h => by cases h) fun K hK => ?_
                      simp only [fillL, List.setIfInBounds_toArray, List.set_cons_zero, List.set_cons_succ, Nat.zero_add, Nat.reduceAdd] at hK ⊢
                      go_simp
                      exact hK _ _ ⟨hk.new rfl, hg⟩
                    · rintro u done' W' hd hanc hclo ⟨hk, hg⟩
                      refine op_plain (ro := none) rfl (fun c h => by cases h) fun K hK => ?_
                      simp only [fillL, List.setIfInBounds_toArray, List.set_cons_zero, List.set_cons_succ, Nat.zero_add, Nat.reduceAdd] at hK ⊢
                      go_simp
                      exact hK _ _ ⟨hk.new rfl, hg⟩
                    · rintro u done' W' hd hanc hclo ⟨hk, hg⟩
                      have e2 := hk.get 2 rfl (hanc 2 (mem_of (by kernel_rfl)))
                      have e3 := hk.get 3 rfl (hanc 3 (mem_of (by kernel_rfl)))
                      refine op_plain (ro := none) rfl (fun c h => by cases h) fun K hK => ?_
                      simp only [fillL, List.setIfInBounds_toArray, List.set_cons_zero, List.set_cons_succ, Nat.zero_add, Nat.reduceAdd, e2, e3] at hK ⊢
                      go_simp
                      exact hK _ _ ⟨hk.new rfl, hg⟩
                    · rintro u done' W' hd hanc hclo ⟨hk, hg⟩
                      have e4 := hk.get 4 rfl (hanc 4 (mem_of (by kernel_rfl)))
                      have c_qpc := (hg.cell (lt_cell qpc)).trans qpc
                      refine op_plain (ro := none) rfl (fun c h => by cases h) fun K hK => ?_
                      simp only [fillL, List.setIfInBounds_toArray, List.set_cons_zero, List.set_cons_succ, Nat.zero_add, Nat.reduceAdd, e4] at hK ⊢
                      go_simp
                      exact hK _ _ ⟨hk.new rfl, hg⟩
                    · rintro u done' W' hd hanc hclo ⟨hk, hg⟩
                      have e0 := hk.get 0 rfl (hanc 0 (mem_of (by kernel_rfl)))
                      have e1 := hk.get 1 rfl (hanc 1 (mem_of (by kernel_rfl)))
                      have e5 := hk.get 5 rfl (hanc 5 (mem_of (by kernel_rfl)))
                      have HCON := Lib.hid (HST.out W' hg)
                      refine op_plain (ro := none) rfl (fun c h => by cases h) fun K hK => ?_
                      simp only [fillL, List.setIfInBounds_toArray, List.set_cons_zero, List.set_cons_succ, Nat.zero_add, Nat.reduceAdd, e0, e1, e5] at hK ⊢
                      go_simp
                      refine HCON.out.mono ?_
                      rintro e w7 ⟨rfl, hg6⟩
                      exact hK _ _ ⟨hk.new rfl, hg.trans hg6⟩
                    · rintro u done' W' hd hanc hclo ⟨hk, hg⟩
                      have e6 := hk.get 6 rfl (hanc 6 (mem_of (by kernel_rfl)))
                      refine op_plain (ro := none) rfl (fun c h => by cases h) fun K hK => ?_
                      simp only [fillL, List.setIfInBounds_toArray, List.set_cons_zero, List.set_cons_succ, Nat.zero_add, Nat.reduceAdd, e6] at hK ⊢
                      go_simp
                      exact hK _ _ ⟨hk.new rfl, hg⟩
                    · rintro u W' ⟨done', hdn, hk, hg⟩
                      have e7 := hk.get 7 rfl (hdn 7 (by decide))
                      simp only [fillL, List.setIfInBounds_toArray, List.set_cons_zero, List.set_cons_succ, Nat.zero_add, Nat.reduceAdd, e7]
                      clear hk hdn e7
                      have G7 := G6.trans hg
                      have r0 := (hg.cell (lt_cell q0)).trans q0
                      have r1 := (hg.cell (lt_cell q1)).trans q1
                      have rpc := (hg.cell (lt_cell qpc)).trans qpc
                      clear q0 q1 qpc
                      cases hsy : stepsB f.times p y bu with
                      | false =>
                        have HF : Hid (cpR f xs L bu = ((k : Int), 112)) := Lib.hid (by rw [HP.out, HL.out, hdr.out]; simp [cpLoop, hwy.out, hsy])
                        have hsv := stepsB_false HOK.out hps hys hsy
                        clear hsy
                        by_cases hneg : stepV f.times p y < 0
                        · go_wp2_with fail
                          go_ret2
                          exact ⟨by rw [HF.out]; rfl, G7⟩
                        · have hgt : bu < stepV f.times p y := by omega
                          go_wp2_with fail
                          go_ret2
                          exact ⟨by rw [HF.out]; rfl, G7⟩
                      | true =>
                        have HF : Hid (cpLoop f bu xs L 0 = cpLoop f bu y (L.drop (k + 1)) ((k + 1 : Nat) : Int)) := Lib.hid (by rw [HL.out, hdr.out]; simp [cpLoop, hwy.out, hsy])
                        have hsv := stepsB_true2 HOK.out hps hys hsy
                        have hneg : ¬ stepV f.times p y < 0 := by omega
                        have hgt : ¬ bu < stepV f.times p y := by omega
                        have hy7 := (hyi.gr g6).gr hg
                        clear hsy hsv
                        go_wp2_with fail
                        go_roundw
                        case rel => exact ⟨k + 1, y, ya, yc, by omega, by go_num, rfl, G7, hy7, hys, r0, r1, HF⟩
                        case measure => simp [intOf]; omega
              · obtain rfl : k = pn := by omega
                have HF : Hid (cpR f xs L bu = (0, 0)) := Lib.hid (by rw [HP.out, HL.out, List.drop_eq_nil_of_le (by rw [hL.len]; exact Nat.le_refl _)]; rfl)
                go_wp2_with fail
                go_ret2
                exact ⟨by rw [HF.out]; rfl, gr⟩
      · have hlb : (statesE f L != 0) = true := by simp [hl0]
        have HP : Hid (cpR f xs L bu = (0, statesE f L)) := Lib.hid (by unfold cpR; rw [HPRE.out.2.1 HST.out hl0, if_neg hl0])
        clear hl0
        go_wp2_with fail
        go_ret2
        exact ⟨by rw [HP.out]; rfl, G5⟩
  · have heb : (chkE f != 0) = true := by simp [he]
    have HP : Hid (cpR f xs L bu = (0, chkE f)) := Lib.hid (by unfold cpR cpPre; rw [if_neg he, if_neg he])
    clear he
    go_enter Try.func29, Try.ntmps29
    go_wp2_with fail
    refine HC.out.mono ?_
    rintro e w3 ⟨rfl, g3⟩
    go_wp2_with fail
    go_ret2
    exact ⟨by rw [HP.out]; rfl, g1.trans g3⟩
end
section
open Go.RowKit

/-- what a push leaves: states of the call's own -/
def KeepI (w w' : World) : Prop := ∀ (ad : Addr) (n : Nat) (y : List Int), Ints w (some ad) n y → Is3 w ad.block → Ints w' (some ad) n y ∧ Is3 w' ad.block
theorem KeepI.of_gr {w w' : World} (g : Gr w w') : KeepI w w' := fun _ _ _ h k => ⟨h.gr g, k.gr g⟩
theorem KeepI.trans {a b c : World} (h : KeepI a b) (k : KeepI b c) : KeepI a c := fun ad n y x z => k ad n y (h ad n y x z).1 (h ad n y x z).2

theorem one_cell_at {w : World} {g : Nat} {v : Value} {t : TypeId} (h : w.heap[g]? = some (.cells #[v] t)) : ∀ j u, [v][j]? = some u → w.cell? ((⟨g, 0, none⟩ : Addr).add j) = some u := by
  intro j u hj
  cases j with
  | zero => simp at hj; subst hj; exact cell_at h rfl
  | succ j => simp at hj

/-- append of one state to the list that a call collects -/
theorem wp_push {o : Oper} {a : Act} {w1 W : World} {K : Act → World → Prop} {Q : Exit → Act → World → Prop} {s x : Operand} {v : Value} {L : List (List Int)} {ad : Addr} {n c g : Nat} {y : List Int}
    (ho : o.op = .call { callee := .builtin .append, args := #[s, x], argTypes := #[22, 22] }) (hs : a.eval s = v) (hx : a.eval x = .slice (some ⟨g, 0, none⟩) 1 1)
    (hg : W.heap[g]? = some (.cells #[.slice (some ad) n c] 26)) (hO : OutR W w1.heap.size v L) (h1 : Gr w1 W) (hy : Ints W (some ad) n y) (h3 : Is3 W ad.block) (hl : L.length ≤ 1000000)
    (h : ∀ v' w', OutR w' w1.heap.size v' (L ++ [y]) → Gr w1 w' → KeepI W w' → K (a.put o.dst v') w') : o.wp Try.prog a W K Q := by
  obtain ⟨i0, hi, hz0, hz1, hz2⟩ := info_parts Try.info26
  obtain ⟨ov, hown, hrw⟩ := hO
  refine wp_append_own W s x 22 ho w1.heap.size 26 i0 (.slice none 0 0) 1 24 Try.underlying22 hi hz0 hz1 hz2 rfl (by decide) v L.length ov hs hown ⟨g, 0, none⟩ 1 1 [.slice (some ad) n c] hx rfl (one_cell_at hg) (one_one _ _ _) (by unfold maxLen; omega) (by omega) h1.size (fun v' w' hown' hgrow _ => ?_)
  have hO' := only_grown hgrow
  have hb : ∀ b, v.ownBlock = some b → w1.heap.size ≤ b ∧ ¬ Is3 W b := fun b e => own_block hown e
  refine h v' w' (OutR.push hown hrw hy h3 hown' hgrow) (((h1.only (fun b => w1.heap.size ≤ b)).trans (hO'.mono' (fun i e => (hb i e).1))).gr (fun i hi e => by omega)) (fun ad' n' y' hi' h3' => ?_)
  exact ⟨hi'.onlyAt hO' (fun ad2 e he => by cases e; exact (hb _ he).2 h3'), h3'.only hO' (fun he => (hb _ he).2 h3')⟩

theorem wpList_push {ops : Array Oper} {rest : List Oper} {o : Oper} {a : Act} {w1 W : World} {Q : Exit → Act → World → Prop} (hgd : o.guard = none) {s x : Operand} {v : Value} {L : List (List Int)} {ad : Addr} {n c g : Nat} {y : List Int}
    (ho : o.op = .call { callee := .builtin .append, args := #[s, x], argTypes := #[22, 22] }) (hs : a.eval s = v) (hx : a.eval x = .slice (some ⟨g, 0, none⟩) 1 1)
    (hg : W.heap[g]? = some (.cells #[.slice (some ad) n c] 26)) (hO : OutR W w1.heap.size v L) (h1 : Gr w1 W) (hy : Ints W (some ad) n y) (h3 : Is3 W ad.block) (hl : L.length ≤ 1000000)
    (h : ∀ v' w', OutR w' w1.heap.size v' (L ++ [y]) → Gr w1 w' → KeepI W w' → wpList Try.prog ops Q rest (a.put o.dst v') w') : wpList Try.prog ops Q (o :: rest) a W :=
  wpList_plain hgd fun K hK => wp_push ho hs hx hg hO h1 hy h3 hl (fun v' w' k1 k2 k3 => hK _ _ (h v' w' k1 k2 k3))

/-- 'append([]int(nil), xs...)' of some numbers -/
theorem wp_copy {o : Oper} {a : Act} {W : World} {K : Act → World → Prop} {Q : Exit → Act → World → Prop} {s x : Operand} {sa : Option Addr} {n c : Nat} {y : List Int}
    (ho : o.op = .call { callee := .builtin .append, args := #[s, x], argTypes := #[26, 26] }) (hs : a.eval s = .slice none 0 0) (hx : a.eval x = .slice sa n c) (hy : Ints W sa n y) (h0 : 0 < n) (hn : n ≤ 1000000)
    (h : ∀ g c' w', Ints w' (some ⟨g, 0, none⟩) n y → Is3 w' g → W.heap.size ≤ g → Gr W w' → K (a.put o.dst (.slice (some ⟨g, 0, none⟩) n c')) w') : o.wp Try.prog a W K Q := by
  obtain ⟨ad, rfl, hab, _⟩ := hy.at h0
  obtain ⟨i0, hi, hz0, hz1, hz2⟩ := info_parts Try.info3
  refine wp_append_own W s x 26 ho W.heap.size 3 i0 (.int .i64 0) 1 8 Try.underlying26 hi hz0 hz1 hz2 rfl (by decide) _ 0 [] hs (World.ownsRow_nil W _ 3 1) ad n c (y.map (Value.int .i64)) hx (by rw [List.length_map, hy.len, Nat.mul_one]) hy.cells (ints_one y) (by unfold maxLen; omega) (by omega) (Nat.le_refl _) (fun v' w' hown' hgrow _ => ?_)
  have hown2 : w'.ownsRow W.heap.size 3 1 v' n (y.map (Value.int .i64)) := by simpa using hown'
  obtain ⟨g, c', rfl, hge, _, hint, his3⟩ := ints_own hy.len (by omega) hown2 h0
  exact h g c' w' hint his3 hge ((only_grown hgrow).gr (fun i hi e => by simp [Value.ownBlock] at e))

theorem wpList_copy {ops : Array Oper} {rest : List Oper} {o : Oper} {a : Act} {W : World} {Q : Exit → Act → World → Prop} (hgd : o.guard = none) {s x : Operand} {sa : Option Addr} {n c : Nat} {y : List Int}
    (ho : o.op = .call { callee := .builtin .append, args := #[s, x], argTypes := #[26, 26] }) (hs : a.eval s = .slice none 0 0) (hx : a.eval x = .slice sa n c) (hy : Ints W sa n y) (h0 : 0 < n) (hn : n ≤ 1000000)
    (h : ∀ g c' w', Ints w' (some ⟨g, 0, none⟩) n y → Is3 w' g → W.heap.size ≤ g → Gr W w' → wpList Try.prog ops Q rest (a.put o.dst (.slice (some ⟨g, 0, none⟩) n c')) w') : wpList Try.prog ops Q (o :: rest) a W :=
  wpList_plain hgd fun K hK => wp_copy ho hs hx hy h0 hn (fun g c' w' k1 k2 k3 k4 => hK _ _ (h g c' w' k1 k2 k3 k4))

/-- a list of states from its j-th on -/
theorem RowsAt.tail1 {w : World} {ad : Addr} {n : Nat} {s : List Int} {L : List (List Int)} (h : RowsAt w (some ad) (n + 1) (s :: L)) : RowsAt w (some (ad.add 1)) n L := by
  refine ⟨by have := h.len; simpa using this, by have := h.lt; omega, fun j hj => ?_⟩
  obtain ⟨ad', a', n', c', e, hb, hc, hi⟩ := h.at (j := j + 1) (by omega)
  cases e
  refine ⟨ad.add 1, a', n', c', rfl, by rw [add_block]; exact hb, ?_, by simpa using hi⟩
  rw [Go.Deep.add_add, Nat.add_comm]; exact hc
theorem RowsAt.take {w : World} {a : Option Addr} {n : Nat} {L : List (List Int)} (h : RowsAt w a n L) {d : Nat} (hd : d ≤ n) : RowsAt w a d (L.take d) := by
  refine ⟨by have := h.len; simp; omega, by have := h.lt; omega, fun j hj => ?_⟩
  obtain ⟨ad', a', n', c', e, hb, hc, hi⟩ := h.at (j := j) (by omega)
  exact ⟨ad', a', n', c', e, hb, hc, by rw [List.getElem?_take_of_lt hj]; exact hi⟩

/-- the states of an update whose parked times are interrupted -/
def intr (T : List (List Int)) : List Int → List (List Int) → List Int → List (List Int)
  | _, _, [] => []
  | cur, [], _ :: r => cur :: intr T cur [] r
  | cur, s :: p, n :: r => if dur T cur s ≤ n then s :: intr T s p r else cur :: intr T cur (s :: p) r
def intE (f : Fl) (xs : List Int) (L : List (List Int)) (bu : Int) (ms : List Int) : Int := if (cpR f xs L bu).2 = 0 then (if 64 < ms.length then 1 else if ms.any (fun n => decide (n < 0)) then 1 else 0) else (cpR f xs L bu).2
def intV (f : Fl) (xs : List Int) (L : List (List Int)) (bu : Int) (ms : List Int) : List (List Int) := if intE f xs L bu ms = 0 then intr f.times xs L ms else []

/-- the first d states of a way, from the last one on -/
def bk (xs : List Int) (L : List (List Int)) : Nat → List (List Int)
  | 0 => []
  | d + 1 => pAt xs L d :: bk xs L d
def backE (f : Fl) (xs : List Int) (L : List (List Int)) (bu d : Int) : Int := if (cpR f xs L bu).2 = 0 then (if withinB d 0 L.length then 0 else 1) else (cpR f xs L bu).2
def backV (f : Fl) (xs : List Int) (L : List (List Int)) (bu d : Int) : List (List Int) := if backE f xs L bu d = 0 then bk xs L d.toNat else []

theorem PlOk.tail {f : Fl} {bu : Int} {xs s : List Int} {L : List (List Int)} (h : PlOk f bu xs (s :: L)) : PlOk f bu s L :=
  ⟨h.ok, by simpa using h.l 0 (by simp), fun j hj => by simpa using h.l (j + 1) (by simp; omega), h.pl.2.2, by have := h.n64; simp at this; omega⟩
theorem PlOk.step {f : Fl} {bu : Int} {xs s : List Int} {L : List (List Int)} (h : PlOk f bu xs (s :: L)) : stepsB f.times xs s bu = true ∧ StOk f s := ⟨h.pl.2.1, by simpa using h.l 0 (by simp)⟩
theorem PlOk.nil {f : Fl} {bu : Int} {xs s : List Int} {L : List (List Int)} (h : PlOk f bu xs (s :: L)) : PlOk f bu xs [] := ⟨h.ok, h.a, fun j hj => by simp at hj, trivial, by simp⟩

/-- what the list of a call is, where it returns -/
theorem OutR.post {w wr : World} {B : Nat} {v : Value} {L : List (List Int)} {code : Int} (h : OutR wr B v L) (g : Gr w wr) (hl : L.length < 1152921504606846976) : PlanPost w L code (.returned (.tuple #[v, .int .i64 code])) wr := by
  obtain ⟨a, c, rfl, hr⟩ := h.rows hl
  exact ⟨a, _, c, rfl, hr, g⟩
end
section
open Go.RowKit

theorem inter1_any (n : Int) (w : World) : Calls Try.prog 72 #[.int .i64 n] w fun e w' => e = .returned (.bool (decide (n < 0))) ∧ Gr w w' := by
  go_enter Try.func72, Try.ntmps72
  go_wp2_with fail
  go_ret
  exact ⟨rfl, Gr.refl _⟩

set_option maxHeartbeats 1000000 in
theorem indexFunc72 (a : Option Addr) (n c : Nat) (xs : List Int) (w : World) (hx : Ints w a n xs) :
    Calls Try.prog 93 #[.slice a n c, .func (.func 72) #[] #[]] w (IdxPost (xs.any fun n => decide (n < 0)) w) := by
  have hn := hx.lt
  go_enter Try.func93, Try.ntmps93
  go_wp2
  go_loopw [8] (fun i wr => ∃ k : Nat, k ≤ n ∧ i = .int .i64 k ∧ Gr w wr ∧ Hid (∀ j, j < k → (decide (xs[j]?.getD 0 < 0)) = false)) (fun i _ => n - (intOf i).toNat)
  case atStart => exact ⟨0, Nat.zero_le _, rfl, Gr.refl _, Lib.hid (by intros; omega)⟩
  case round =>
    obtain ⟨k, hk, rfl, hg, hall⟩ := hrel
    by_cases hlt : k < n
    · obtain ⟨aa, rfl, hab, hac⟩ := (hx.gr hg).at hlt
      have HI := Lib.hid (inter1_any (xs[k]?.getD 0) wr)
      cases hb : (decide (xs[k]?.getD 0 < 0)) with
      | true =>
        rw [hb] at HI
        go_wp2_with (go_at_call 72; refine HI.out.mono ?_; rintro e w' ⟨rfl, hg2⟩)
        go_ret
        exact ⟨k, rfl, by rw [any_hit (p := fun n => decide (n < 0)) (by rw [hx.len]; exact hlt) hb]; simp, hg.trans hg2⟩
      | false =>
        rw [hb] at HI
        go_wp2_with (go_at_call 72; refine HI.out.mono ?_; rintro e w' ⟨rfl, hg2⟩)
        go_roundw
        case rel => exact ⟨k + 1, by omega, by go_num, hg.trans hg2, Lib.hid (fun j hj => by
          by_cases e : j = k
          · subst e; exact hb
          · exact hall.out j (by omega))⟩
        case measure => simp [intOf]; omega
    · obtain rfl : k = n := by omega
      go_wp2
      go_ret
      exact ⟨-1, rfl, by rw [any_none (p := fun n => decide (n < 0)) (fun j hj => hall.out j (by rw [← hx.len]; exact hj))]; simp, hg⟩

theorem containsFunc72 (a : Option Addr) (n c : Nat) (xs : List Int) (w : World) (hx : Ints w a n xs) :
    Calls Try.prog 71 #[.slice a n c, .func (.func 72) #[] #[]] w fun e w' => e = .returned (.bool (xs.any fun n => decide (n < 0))) ∧ Gr w w' := by
  go_enter Try.func71, Try.ntmps71
  go_wp2_with (go_at_call 93; refine (indexFunc72 _ _ _ _ _ hx).mono ?_; rintro e w' ⟨r, rfl, hr, hg⟩)
  go_ret
  exact ⟨rfl, by assumption⟩

theorem drop_at {ms : List Int} {k : Nat} (h : k < ms.length) : ms.drop k = (ms[k]?.getD 0) :: ms.drop (k + 1) := by
  rw [List.drop_eq_getElem_cons h]; simp [h]

set_option maxRecDepth 100000 in
set_option maxHeartbeats 4000000 in
theorem interrupt_any (ta ca a pa ma : Option Addr) (tn tc cn cc n c pn pc mn mc : Nat) (f : Fl) (xs ms : List Int) (L : List (List Int)) (bu : Int) (w : World) (hf : FlAt w ta tn ca cn f) (hx : Ints w a n xs) (hL : RowsAt w pa pn L) (hpc : pn ≤ pc) (hm : Ints w ma mn ms) :
    Calls Try.prog 30 #[.agg #[.slice ta tn tc, .slice ca cn cc], .slice a n c, .slice pa pn pc, .int .i64 bu, .slice ma mn mc] w (PlanPost w (intV f xs L bu ms) (intE f xs L bu ms)) := by
  have g1 := Gr.alloc w (.cells #[.slice ta tn tc, .slice ca cn cc] 25)
  have c0 := cell_new (w := w) (t := 25) (cs := #[.slice ta tn tc, .slice ca cn cc]) (j := 0) rfl
  have c1 := cell_new (w := w) (t := 25) (cs := #[.slice ta tn tc, .slice ca cn cc]) (j := 1) rfl
  obtain ⟨w1, hw1⟩ : ∃ w1, w.alloc (.cells #[.slice ta tn tc, .slice ca cn cc] 25) = w1 := ⟨_, rfl⟩
  rw [hw1] at g1 c0 c1
  have HC := Lib.hid (checkPlan_any ta ca a pa tn tc cn cc n c pn pc f xs L bu w1 (hf.gr g1) (hx.gr g1) (hL.gr g1))
  have hml := hm.lt
  by_cases he : (cpR f xs L bu).2 = 0
  · have heb : ((cpR f xs L bu).2 != 0) = false := by simp [he]
    have hpl := cpR_pl he
    have HE : Hid (intE f xs L bu ms = (if 64 < ms.length then 1 else if ms.any (fun n => decide (n < 0)) then 1 else 0)) := Lib.hid (by unfold intE; rw [if_pos he])
    have HPL := Lib.hid hpl
    have hn1 : 0 < n := by have := hpl.ok.n1; have := hpl.a.len; have := hx.len; omega
    have hn6 : n ≤ 6 := by have := hpl.ok.n6; have := hpl.a.len; have := hx.len; omega
    clear he hpl
    by_cases h64 : 64 < mn
    · have HP : Hid (intE f xs L bu ms = 1 ∧ intV f xs L bu ms = []) := Lib.hid (by
        have : intE f xs L bu ms = 1 := by rw [HE.out, hm.len, if_pos h64]
        exact ⟨this, by unfold intV; rw [this]; rfl⟩)
      have h64' : (64 : Int) < mn := by omega
      go_enter Try.func30, Try.ntmps30
      go_wp2_with fail
      refine HC.out.mono ?_
      rintro e w3 ⟨rfl, g3⟩
      go_wp2_with fail
      go_ret2
      exact ⟨none, 0, 0, by rw [HP.out.1]; rfl, by rw [HP.out.2]; exact RowsAt.nil _, g1.trans g3⟩
    have h64' : ¬ (64 : Int) < mn := by omega
    go_enter Try.func30, Try.ntmps30
    go_wp2_with fail
    refine HC.out.mono ?_
    rintro e w2 ⟨rfl, g2⟩
    have G2 := g1.trans g2
    have d0 := (g2.cell (lt_cell c0)).trans c0
    have d1 := (g2.cell (lt_cell c1)).trans c1
    clear hw1 c0 c1 HC g1 g2
    have HCF := Lib.hid (containsFunc72 ma mn mc ms w2 (hm.gr G2))
    go_wp2_with fail
    refine HCF.out.mono ?_
    rintro e w3 ⟨rfl, g3⟩
    have G3 := G2.trans g3
    have e0 := (g3.cell (lt_cell d0)).trans d0
    have e1 := (g3.cell (lt_cell d1)).trans d1
    clear d0 d1 HCF g3
    cases hany : ms.any (fun n => decide (n < 0)) with
    | true =>
      have HP : Hid (intE f xs L bu ms = 1 ∧ intV f xs L bu ms = []) := Lib.hid (by
        have : intE f xs L bu ms = 1 := by rw [HE.out, hm.len, if_neg h64, hany]; rfl
        exact ⟨this, by unfold intV; rw [this]; rfl⟩)
      go_wp2_with fail
      go_ret2
      exact ⟨none, 0, 0, by rw [HP.out.1]; rfl, by rw [HP.out.2]; exact RowsAt.nil _, G3⟩
    | false =>
      have HP : Hid (intE f xs L bu ms = 0 ∧ intV f xs L bu ms = intr f.times xs L ms) := Lib.hid (by
        have : intE f xs L bu ms = 0 := by rw [HE.out, hm.len, if_neg h64, hany]; rfl
        exact ⟨this, by unfold intV; rw [this]; rfl⟩)
      clear hany HE
      have hm3 := hm.gr G3
      have hf3 := hf.gr G3
      have HML := Lib.hid hm.len
      go_wp2_with fail
      go_loopw [1, 2, 10, 36] (fun s p o i wr => ∃ (k : Nat) (cur : List Int) (qa : Option Addr) (qc : Nat) (P : List (List Int)) (ra : Option Addr) (rn rc : Nat) (Lo : List (List Int)), k ≤ mn ∧ i = .int .i64 k ∧ s = .slice qa n qc ∧ p = .slice ra rn rc ∧ rn ≤ rc ∧ Gr w3 wr ∧ Ints w3 qa n cur ∧ RowsAt w3 ra rn P ∧ OutR wr w3.heap.size o Lo ∧ Lo.length = k ∧ Hid (PlOk f bu cur P) ∧ Hid (Lo ++ intr f.times cur P (ms.drop k) = intr f.times xs L ms)) (fun _ _ _ i _ => mn - (intOf i).toNat)
      case atStart => exact ⟨0, xs, a, c, L, pa, pn, pc, [], Nat.zero_le _, rfl, rfl, rfl, hpc, Gr.refl _, hx.gr G3, hL.gr G3, OutR.nil _ _, rfl, HPL, Lib.hid (by simp)⟩
      case round =>
        obtain ⟨k, cur, qa, qc, P, ra, rn, rc, Lo, hk, rfl, rfl, rfl, hrc, gr, hq, hP, hO, hlo, HPL, HT⟩ := hrel
        have m0 := (gr.cell (lt_cell e0)).trans e0
        have m1 := (gr.cell (lt_cell e1)).trans e1
        by_cases hlt : k < mn
        · obtain ⟨md, rfl, hmb, hmc⟩ := (hm3.gr gr).at hlt
          have hdr : Hid (ms.drop k = (ms[k]?.getD 0) :: ms.drop (k + 1)) := Lib.hid (drop_at (by rw [HML.out]; exact hlt))
          have wr_out := hO
          generalize hmi : ms[k]?.getD 0 = mi at *
          clear hmi
          cases P with
          | nil =>
            have hr0 : rn = 0 := by have := hP.len; simpa using this.symm
            subst hr0
            have HN : Hid ((Lo ++ [cur]) ++ intr f.times cur [] (ms.drop (k + 1)) = intr f.times xs L ms) := Lib.hid (by
              have := HT.out; rw [hdr.out] at this; simpa [intr] using this)
            go_wp2_with fail
            refine (wpIn_wide (n := 0)).1 ?_
            refine region_inv (F := Fence.wide) (by kernel_rfl) (by rfl) (by decide) (fun _ => trivial)
              (fun done' u W' => Kn [some (.slice ra 0 rc), some (.int .i64 0), some (.bool false), some (.bool false), none, none, none, none, none, none, none, none, some (.bool false)] done' u ∧ Gr wr W')
              (fun u => ⟨Kn.start _ _, Gr.drew wr⟩) ⟨?_, ?_, ?_, ?_, ?_, ?_, ?_, ?_, ?_, ?_, ?_, ?_, ?_, trivial⟩ ?_
            · rintro u done' W' hd hanc hclo ⟨hk, hg⟩
              refine op_plain (ro := none) rfl (fun c h => by cases h) fun K hK => ?_
              simp only [fillL, List.setIfInBounds_toArray, List.set_cons_zero, List.set_cons_succ, Nat.zero_add, Nat.reduceAdd] at hK ⊢
              go_simp
              exact hK _ _ ⟨hk.new rfl, hg⟩
            · rintro u done' W' hd hanc hclo ⟨hk, hg⟩
              have e0 := hk.get 0 rfl (hanc 0 (mem_of (by kernel_rfl)))
              refine op_plain (ro := none) rfl (fun c h => by cases h) fun K hK => ?_
              simp only [fillL, List.setIfInBounds_toArray, List.set_cons_zero, List.set_cons_succ, Nat.zero_add, Nat.reduceAdd, e0] at hK ⊢
              go_simp
              exact hK _ _ ⟨hk.new rfl, hg⟩
            · rintro u done' W' hd hanc hclo ⟨hk, hg⟩
              have e1 := hk.get 1 rfl (hanc 1 (mem_of (by kernel_rfl)))
              refine op_plain (ro := none) rfl (fun c h => by cases h) fun K hK => ?_
              simp only [fillL, List.setIfInBounds_toArray, List.set_cons_zero, List.set_cons_succ, Nat.zero_add, Nat.reduceAdd, e1] at hK ⊢
              go_simp
              exact hK _ _ ⟨hk.new rfl, hg⟩
            · rintro u done' W' hd hanc hclo ⟨hk, hg⟩
              have e2 := hk.get 2 rfl (hanc 2 (mem_of (by kernel_rfl)))
              refine op_plain (ro := none) rfl (fun c h => by cases h) fun K hK => ?_
              simp only [fillL, List.setIfInBounds_toArray, List.set_cons_zero, List.set_cons_succ, Nat.zero_add, Nat.reduceAdd, e2] at hK ⊢
              go_simp
              exact hK _ _ ⟨hk.new rfl, hg⟩
            · intro u done' W' hd hanc hclo hR
              have e3 := hR.1.get 3 rfl (hanc 3 (mem_of (by kernel_rfl)))
              with_reducible refine op_skip 3 true e3 rfl ?_ ?_ rfl ?_
              · decide
              · rfl
              · obtain ⟨hk, hg⟩ := hR
                exact ⟨hk.skip rfl, hg⟩
            · intro u done' W' hd hanc hclo hR
              have e3 := hR.1.get 3 rfl (hanc 3 (mem_of (by kernel_rfl)))
              with_reducible refine op_skip 3 true e3 rfl ?_ ?_ rfl ?_
              · decide
              · rfl
              · obtain ⟨hk, hg⟩ := hR
                exact ⟨hk.skip rfl, hg⟩
            · intro u done' W' hd hanc hclo hR
              have e3 := hR.1.get 3 rfl (hanc 3 (mem_of (by kernel_rfl)))
              with_reducible refine op_skip 3 true e3 rfl ?_ ?_ rfl ?_
              · decide
              · rfl
              · obtain ⟨hk, hg⟩ := hR
                exact ⟨hk.skip rfl, hg⟩
            · intro u done' W' hd hanc hclo hR
              have e3 := hR.1.get 3 rfl (hanc 3 (mem_of (by kernel_rfl)))
              with_reducible refine op_skip 3 true e3 rfl ?_ ?_ rfl ?_
              · decide
              · rfl
              · obtain ⟨hk, hg⟩ := hR
                exact ⟨hk.skip rfl, hg⟩
            · intro u done' W' hd hanc hclo hR
              have e3 := hR.1.get 3 rfl (hanc 3 (mem_of (by kernel_rfl)))
              with_reducible refine op_skip 3 true e3 rfl ?_ ?_ rfl ?_
              · decide
              · rfl
              · obtain ⟨hk, hg⟩ := hR
                exact ⟨hk.skip rfl, hg⟩
            · intro u done' W' hd hanc hclo hR
              have e3 := hR.1.get 3 rfl (hanc 3 (mem_of (by kernel_rfl)))
              with_reducible refine op_skip 3 true e3 rfl ?_ ?_ rfl ?_
              · decide
              · rfl
              · obtain ⟨hk, hg⟩ := hR
                exact ⟨hk.skip rfl, hg⟩
            · intro u done' W' hd hanc hclo hR
              have e3 := hR.1.get 3 rfl (hanc 3 (mem_of (by kernel_rfl)))
              with_reducible refine op_skip 3 true e3 rfl ?_ ?_ rfl ?_
              · decide
              · rfl
              · obtain ⟨hk, hg⟩ := hR
                exact ⟨hk.skip rfl, hg⟩
            · intro u done' W' hd hanc hclo hR
              have e3 := hR.1.get 3 rfl (hanc 3 (mem_of (by kernel_rfl)))
              with_reducible refine op_skip 3 true e3 rfl ?_ ?_ rfl ?_
              · decide
              · rfl
              · obtain ⟨hk, hg⟩ := hR
                exact ⟨hk.skip rfl, hg⟩
            · rintro u done' W' hd hanc hclo ⟨hk, hg⟩
              have e3 := hk.get 3 rfl (hanc 3 (mem_of (by kernel_rfl)))
              refine op_plain (ro := none) rfl (fun c h => by cases h) fun K hK => ?_
              simp only [fillL, List.setIfInBounds_toArray, List.set_cons_zero, List.set_cons_succ, Nat.zero_add, Nat.reduceAdd, e3] at hK ⊢
              go_simp
              exact hK _ _ ⟨hk.new rfl, hg⟩
            · rintro u W' ⟨done', hdn, hk, hg⟩
              have e12 := hk.get 12 rfl (hdn 12 (by decide))
              have W'_out := wr_out.gr hg
              clear hk hdn
              simp only [fillL, List.setIfInBounds_toArray, List.set_cons_zero, List.set_cons_succ, Nat.zero_add, Nat.reduceAdd, e12]
              obtain ⟨ad, rfl, _, _⟩ := (hq.gr (gr.trans hg)).at hn1
              have HCN := Lib.hid (clone_any (some ad) n qc cur W' (hq.gr (gr.trans hg)) hn1 (by omega))
              have hlc := (hq.gr (gr.trans hg)).len
              go_wp2_with fail
              refine HCN.out.mono ?_
              rintro e w9 ⟨g9, gc, rfl, hge9, hgi, hg9, hg3⟩
              rw [hlc] at hgi ⊢
              have G9 := (gr.trans hg).trans hg9
              have hO9 := (W'_out).gr (hg9.allocR (.cells #[.slice (some ⟨g9, 0, none⟩) n gc] 26))
              have hy9 := hgi.gr (Gr.alloc w9 (.cells #[.slice (some ⟨g9, 0, none⟩) n gc] 26))
              have h39 := hg3.gr (Gr.alloc w9 (.cells #[.slice (some ⟨g9, 0, none⟩) n gc] 26))
              have G10 := G9.allocR (.cells #[.slice (some ⟨g9, 0, none⟩) n gc] 26)
              have hg10 := heap_alloc_new w9 (.cells #[.slice (some ⟨g9, 0, none⟩) n gc] 26)
              clear HCN hgi hg3 hg9
              go_wp2_with (at_builtin; refine wpList_push rfl rfl rfl rfl hg10 hO9 G10 hy9 h39 (by omega) ?_; intro v' w11 hO11 G11 _)
              clear hO9 hy9 h39 G10 hg10
              go_wp2_with fail
              go_roundw
              case rel => exact ⟨k + 1, cur, some ad, qc, [], ra, 0, rc, Lo ++ [cur], by omega, by go_num, rfl, rfl, hrc, G11, hq, hP, hO11, by simp [hlo], HPL, HN⟩
              case measure => simp [intOf]; omega
          | cons s P =>
            obtain ⟨rn, rfl⟩ : ∃ m, rn = m + 1 := ⟨P.length, by have := hP.len; simpa using this.symm⟩
            obtain ⟨pd, ya, yn, yc, rfl, hpb, hpcell, hyi⟩ := hP.at (j := 0) (by omega)
            have hst := HPL.out.step
            have hyn : yn = n := by rw [← hyi.len]; simp; rw [hst.2.len, ← HPL.out.a.len, hq.len]
            subst hyn
            obtain ⟨n, hnn⟩ : ∃ n, n = yn := ⟨_, rfl⟩
            subst hnn
            have hyi : Ints w3 ya n s := by simpa using hyi
            have hadd0 : pd.add 0 = pd := by unfold Addr.add; rfl
            rw [hadd0] at hpcell
            have pcell := (gr.cell (lt_cell hpcell)).trans hpcell
            obtain ⟨ra2, hra2, hP2⟩ : ∃ ra2, (if rc = 1 then some pd else some ⟨pd.block, pd.off + 1, none⟩) = ra2 ∧ RowsAt w3 ra2 rn P := by
              refine ⟨_, rfl, ?_⟩
              split
              · obtain rfl : rn = 0 := by omega
                have hPl := hP.len
                obtain rfl : P = [] := List.eq_nil_of_length_eq_zero (by simpa using hPl)
                exact ⟨rfl, by omega, fun j hj => by omega⟩
              · have hp1 : pd.add 1 = ⟨pd.block, pd.off + 1, none⟩ := by unfold Addr.add; rfl
                rw [← hp1]; exact hP.tail1
            have HDU : Hid (∀ W, Gr wr W → Calls Try.prog 58 #[.agg #[.slice ta tn tc, .slice ca cn cc], .slice qa n qc, .slice ya n yc] W fun e w' => e = .returned (.int .i64 (dur f.times cur s)) ∧ Gr W w') := Lib.hid (fun W g => duration_any ta ca qa ya tn tc cn cc n qc yc f cur s W (hf3.gr (gr.trans g)) HPL.out.ok (hq.gr (gr.trans g)) (hyi.gr (gr.trans g)) (fun c hc => (HPL.out.a.ver c hc).1) hst.2 (fun c hc => aboveV_le (stepsB_true hst.1).1 c (by rw [hst.2.len]; exact hc)))
            obtain ⟨tb, htb, HTB⟩ : ∃ tb, decide (dur f.times cur s ≤ mi) = tb ∧ Hid (tb = decide (dur f.times cur s ≤ mi)) := ⟨_, rfl, Lib.hid rfl⟩
            have HTL := Lib.hid HPL.out.tail
            clear hpb hpcell hst
            go_wp2_with fail
            refine (wpIn_wide (n := 0)).1 ?_
            refine region_inv (F := Fence.wide) (by kernel_rfl) (by rfl) (by decide) (fun _ => trivial)
              (fun done' u W' => Kn [some (.slice (some pd) (rn + 1) rc), some (.int .i64 ((rn + 1 : Nat) : Int)), some (.bool true), some (.bool true), some (.agg #[.slice ta tn tc, .slice ca cn cc]), some (.slice qa n qc), some (.slice (some pd) (rn + 1) rc), some (.pointer (some pd)), some (.slice ya n yc), some (.int .i64 (dur f.times cur s)), some (.int .i64 mi), some (.bool tb), some (.bool tb)] done' u ∧ Gr wr W')
              (fun u => ⟨Kn.start _ _, Gr.drew wr⟩) ⟨?_, ?_, ?_, ?_, ?_, ?_, ?_, ?_, ?_, ?_, ?_, ?_, ?_, trivial⟩ ?_
            · rintro u done' W' hd hanc hclo ⟨hk, hg⟩
              refine op_plain (ro := none) rfl (fun c h => by cases h) fun K hK => ?_
              simp only [fillL, List.setIfInBounds_toArray, List.set_cons_zero, List.set_cons_succ, Nat.zero_add, Nat.reduceAdd] at hK ⊢
              go_simp
              exact hK _ _ ⟨hk.new rfl, hg⟩
            · rintro u done' W' hd hanc hclo ⟨hk, hg⟩
              have e0 := hk.get 0 rfl (hanc 0 (mem_of (by kernel_rfl)))
              refine op_plain (ro := none) rfl (fun c h => by cases h) fun K hK => ?_
              simp only [fillL, List.setIfInBounds_toArray, List.set_cons_zero, List.set_cons_succ, Nat.zero_add, Nat.reduceAdd, e0] at hK ⊢
              go_simp
              exact hK _ _ ⟨hk.new rfl, hg⟩
            · rintro u done' W' hd hanc hclo ⟨hk, hg⟩
              have e1 := hk.get 1 rfl (hanc 1 (mem_of (by kernel_rfl)))
              refine op_plain (ro := none) rfl (fun c h => by cases h) fun K hK => ?_
              simp only [fillL, List.setIfInBounds_toArray, List.set_cons_zero, List.set_cons_succ, Nat.zero_add, Nat.reduceAdd, e1] at hK ⊢
              go_simp
              exact hK _ _ ⟨hk.new rfl, hg⟩
            · rintro u done' W' hd hanc hclo ⟨hk, hg⟩
              have e2 := hk.get 2 rfl (hanc 2 (mem_of (by kernel_rfl)))
              refine op_plain (ro := none) rfl (fun c h => by cases h) fun K hK => ?_
              simp only [fillL, List.setIfInBounds_toArray, List.set_cons_zero, List.set_cons_succ, Nat.zero_add, Nat.reduceAdd, e2] at hK ⊢
              go_simp
              exact hK _ _ ⟨hk.new rfl, hg⟩
            · intro u done' W' hd hanc hclo hR
              have hk := hR.1
              have e3 := hk.get 3 rfl (hanc 3 (mem_of (by kernel_rfl)))
              with_reducible refine op_meetIn 3 true e3 ?_ ?_ ?_ ?_
              · decide
              · rfl
              · rfl
              refine op_in (ro := none) ?_ ?_
              · intro c h; cases h
              intro K hK
              have hg := hR.2
              have c_m0 := (hg.cell (lt_cell m0)).trans m0
              have c_m1 := (hg.cell (lt_cell m1)).trans m1
              simp only [fillL, List.setIfInBounds_toArray, List.set_cons_zero, List.set_cons_succ, Nat.zero_add, Nat.reduceAdd, e3] at hK ⊢
              go_simp
              exact hK _ _ ⟨hk.new rfl, hg⟩
            · intro u done' W' hd hanc hclo hR
              have hk := hR.1
              have e3 := hk.get 3 rfl (hanc 3 (mem_of (by kernel_rfl)))
              with_reducible refine op_meetIn 3 true e3 ?_ ?_ ?_ ?_
              · decide
              · rfl
              · rfl
              refine op_in (ro := none) ?_ ?_
              · intro c h; cases h
              intro K hK
              have hg := hR.2
              simp only [fillL, List.setIfInBounds_toArray, List.set_cons_zero, List.set_cons_succ, Nat.zero_add, Nat.reduceAdd, e3] at hK ⊢
              go_simp
              exact hK _ _ ⟨hk.new rfl, hg⟩
            · intro u done' W' hd hanc hclo hR
              have hk := hR.1
              have e3 := hk.get 3 rfl (hanc 3 (mem_of (by kernel_rfl)))
              with_reducible refine op_meetIn 3 true e3 ?_ ?_ ?_ ?_
              · decide
              · rfl
              · rfl
              refine op_in (ro := none) ?_ ?_
              · intro c h; cases h
              intro K hK
              have hg := hR.2
              simp only [fillL, List.setIfInBounds_toArray, List.set_cons_zero, List.set_cons_succ, Nat.zero_add, Nat.reduceAdd, e3] at hK ⊢
              go_simp
              exact hK _ _ ⟨hk.new rfl, hg⟩
            · intro u done' W' hd hanc hclo hR
              have hk := hR.1
              have e3 := hk.get 3 rfl (hanc 3 (mem_of (by kernel_rfl)))
              have e6 := hk.get 6 rfl (hanc 6 (mem_of (by kernel_rfl)))
              with_reducible refine op_meetIn 3 true e3 ?_ ?_ ?_ ?_
              · decide
              · rfl
              · rfl
              refine op_in (ro := none) ?_ ?_
              · intro c h; cases h
              intro K hK
              have hg := hR.2
              simp only [fillL, List.setIfInBounds_toArray, List.set_cons_zero, List.set_cons_succ, Nat.zero_add, Nat.reduceAdd, e3, e6] at hK ⊢
              go_simp
              exact hK _ _ ⟨hk.new rfl, hg⟩
            · intro u done' W' hd hanc hclo hR
              have hk := hR.1
              have e3 := hk.get 3 rfl (hanc 3 (mem_of (by kernel_rfl)))
              have e7 := hk.get 7 rfl (hanc 7 (mem_of (by kernel_rfl)))
              with_reducible refine op_meetIn 3 true e3 ?_ ?_ ?_ ?_
              · decide
              · rfl
              · rfl
              refine op_in (ro := none) ?_ ?_
              · intro c h; cases h
              intro K hK
              have hg := hR.2
              have c_pcell := (hg.cell (lt_cell pcell)).trans pcell
              simp only [fillL, List.setIfInBounds_toArray, List.set_cons_zero, List.set_cons_succ, Nat.zero_add, Nat.reduceAdd, e3, e7] at hK ⊢
              go_simp
              exact hK _ _ ⟨hk.new rfl, hg⟩
            · intro u done' W' hd hanc hclo hR
              have hk := hR.1
              have e3 := hk.get 3 rfl (hanc 3 (mem_of (by kernel_rfl)))
              have e4 := hk.get 4 rfl (hanc 4 (mem_of (by kernel_rfl)))
              have e5 := hk.get 5 rfl (hanc 5 (mem_of (by kernel_rfl)))
              have e8 := hk.get 8 rfl (hanc 8 (mem_of (by kernel_rfl)))
              with_reducible refine op_meetIn 3 true e3 ?_ ?_ ?_ ?_
              · decide
              · rfl
              · rfl
              refine op_in (ro := none) ?_ ?_
              · intro c h; cases h
              intro K hK
              have hg := hR.2
              have HCON := Lib.hid (HDU.out W' hg)
              simp only [fillL, List.setIfInBounds_toArray, List.set_cons_zero, List.set_cons_succ, Nat.zero_add, Nat.reduceAdd, e3, e4, e5, e8] at hK ⊢
              go_simp
              refine HCON.out.mono ?_
              rintro e w7 ⟨rfl, hg6⟩
              exact hK _ _ ⟨hk.new rfl, hg.trans hg6⟩
            · intro u done' W' hd hanc hclo hR
              have hk := hR.1
              have e3 := hk.get 3 rfl (hanc 3 (mem_of (by kernel_rfl)))
              with_reducible refine op_meetIn 3 true e3 ?_ ?_ ?_ ?_
              · decide
              · rfl
              · rfl
              refine op_in (ro := none) ?_ ?_
              · intro c h; cases h
              intro K hK
              have hg := hR.2
              simp only [fillL, List.setIfInBounds_toArray, List.set_cons_zero, List.set_cons_succ, Nat.zero_add, Nat.reduceAdd, e3] at hK ⊢
              go_simp
              exact hK _ _ ⟨hk.new rfl, hg⟩
            · intro u done' W' hd hanc hclo hR
              have hk := hR.1
              have e3 := hk.get 3 rfl (hanc 3 (mem_of (by kernel_rfl)))
              have e9 := hk.get 9 rfl (hanc 9 (mem_of (by kernel_rfl)))
              have e10 := hk.get 10 rfl (hanc 10 (mem_of (by kernel_rfl)))
              with_reducible refine op_meetIn 3 true e3 ?_ ?_ ?_ ?_
              · decide
              · rfl
              · rfl
              refine op_in (ro := none) ?_ ?_
              · intro c h; cases h
              intro K hK
              have hg := hR.2
              simp only [fillL, List.setIfInBounds_toArray, List.set_cons_zero, List.set_cons_succ, Nat.zero_add, Nat.reduceAdd, e3, e9, e10] at hK ⊢
              go_simp
              try rw [htb]
              exact hK _ _ ⟨hk.new rfl, hg⟩
            · rintro u done' W' hd hanc hclo ⟨hk, hg⟩
              have e3 := hk.get 3 rfl (hanc 3 (mem_of (by kernel_rfl)))
              have e11 := hk.get 11 rfl (hanc 11 (mem_of (by kernel_rfl)))
              refine op_plain (ro := none) rfl (fun c h => by cases h) fun K hK => ?_
              simp only [fillL, List.setIfInBounds_toArray, List.set_cons_zero, List.set_cons_succ, Nat.zero_add, Nat.reduceAdd, e3, e11] at hK ⊢
              go_simp
              exact hK _ _ ⟨hk.new rfl, hg⟩
            · rintro u W' ⟨done', hdn, hk, hg⟩
              have e12 := hk.get 12 rfl (hdn 12 (by decide))
              have W'_out := wr_out.gr hg
              clear hk hdn
              simp only [fillL, List.setIfInBounds_toArray, List.set_cons_zero, List.set_cons_succ, Nat.zero_add, Nat.reduceAdd, e12]
              have G7 := gr.trans hg
              have pcell := (hg.cell (lt_cell pcell)).trans pcell
              obtain ⟨w7, hw7⟩ : ∃ w7, w7 = W' := ⟨_, rfl⟩
              subst hw7
              have w7_out := W'_out
              clear hg m0 m1
              cases tb with
              | true =>
                have hle : dur f.times cur s ≤ mi := by simpa using HTB.out
                have HN : Hid ((Lo ++ [s]) ++ intr f.times s P (ms.drop (k + 1)) = intr f.times xs L ms) := Lib.hid (by
                  have := HT.out; rw [hdr.out] at this; simpa [intr, hle] using this)
                clear hle htb
                go_wp2_with fail
                go_region
                have hg := Gr.drew w7
                try simp only [hra2]
                obtain ⟨w8, hw8⟩ : ∃ w8, w7.drew = w8 := ⟨_, rfl⟩
                rw [hw8] at hg ⊢
                clear hw8
                have w8_out := w7_out.gr hg
                obtain ⟨ad, rfl, _, _⟩ := (hyi.gr (G7.trans hg)).at hn1
                have HCN := Lib.hid (clone_any (some ad) n yc s w8 (hyi.gr (G7.trans hg)) hn1 (by omega))
                have hlc := (hyi.gr (G7.trans hg)).len
                go_wp2_with fail
                refine HCN.out.mono ?_
                rintro e w9 ⟨g9, gc, rfl, hge9, hgi, hg9, hg3⟩
                rw [hlc] at hgi ⊢
                have G9 := (G7.trans hg).trans hg9
                have hO9 := (w8_out).gr (hg9.allocR (.cells #[.slice (some ⟨g9, 0, none⟩) n gc] 26))
                have hy9 := hgi.gr (Gr.alloc w9 (.cells #[.slice (some ⟨g9, 0, none⟩) n gc] 26))
                have h39 := hg3.gr (Gr.alloc w9 (.cells #[.slice (some ⟨g9, 0, none⟩) n gc] 26))
                have G10 := G9.allocR (.cells #[.slice (some ⟨g9, 0, none⟩) n gc] 26)
                have hg10 := heap_alloc_new w9 (.cells #[.slice (some ⟨g9, 0, none⟩) n gc] 26)
                clear HCN hgi hg3 hg9
                go_wp2_with (at_builtin; refine wpList_push rfl rfl rfl rfl hg10 hO9 G10 hy9 h39 (by omega) ?_; intro v' w11 hO11 G11 _)
                clear hO9 hy9 h39 G10 hg10
                go_wp2_with fail
                go_roundw
                case rel => exact ⟨k + 1, s, some ad, yc, P, ra2, rn, rc - 1, Lo ++ [s], by omega, by go_num, rfl, rfl, by omega, G11, hyi, hP2, hO11, by simp [hlo], HTL, HN⟩
                case measure => simp [intOf]; omega
              | false =>
                have hle : ¬ dur f.times cur s ≤ mi := by simpa using HTB.out
                have HN : Hid ((Lo ++ [cur]) ++ intr f.times cur (s :: P) (ms.drop (k + 1)) = intr f.times xs L ms) := Lib.hid (by
                  have := HT.out; rw [hdr.out] at this; simpa [intr, hle] using this)
                clear hle htb
                obtain ⟨ad, rfl, _, _⟩ := (hq.gr G7).at hn1
                have HCN := Lib.hid (clone_any (some ad) n qc cur w7 (hq.gr G7) hn1 (by omega))
                have hlc := (hq.gr G7).len
                go_wp2_with fail
                refine HCN.out.mono ?_
                rintro e w9 ⟨g9, gc, rfl, hge9, hgi, hg9, hg3⟩
                rw [hlc] at hgi ⊢
                have G9 := (G7).trans hg9
                have hO9 := (w7_out).gr (hg9.allocR (.cells #[.slice (some ⟨g9, 0, none⟩) n gc] 26))
                have hy9 := hgi.gr (Gr.alloc w9 (.cells #[.slice (some ⟨g9, 0, none⟩) n gc] 26))
                have h39 := hg3.gr (Gr.alloc w9 (.cells #[.slice (some ⟨g9, 0, none⟩) n gc] 26))
                have G10 := G9.allocR (.cells #[.slice (some ⟨g9, 0, none⟩) n gc] 26)
                have hg10 := heap_alloc_new w9 (.cells #[.slice (some ⟨g9, 0, none⟩) n gc] 26)
                clear HCN hgi hg3 hg9
                go_wp2_with (at_builtin; refine wpList_push rfl rfl rfl rfl hg10 hO9 G10 hy9 h39 (by omega) ?_; intro v' w11 hO11 G11 _)
                clear hO9 hy9 h39 G10 hg10
                go_wp2_with fail
                go_roundw
                case rel => exact ⟨k + 1, cur, some ad, qc, s :: P, some pd, rn + 1, rc, Lo ++ [cur], by omega, by go_num, rfl, rfl, hrc, G11, hq, hP, hO11, by simp [hlo], HPL, HN⟩
                case measure => simp [intOf]; omega
        · obtain rfl : k = mn := by omega
          have HF : Hid (Lo = intV f xs L bu ms) := Lib.hid (by
            have := HT.out; rw [List.drop_eq_nil_of_le (by rw [HML.out]; exact Nat.le_refl _)] at this
            rw [HP.out.2, ← this]; cases P <;> simp [intr])
          go_wp2_with fail
          go_ret2
          rw [← HF.out, HP.out.1]
          exact hO.post (G3.trans gr) (by omega)
  · have heb : ((cpR f xs L bu).2 != 0) = true := by simp [he]
    have HP : Hid (intE f xs L bu ms = (cpR f xs L bu).2 ∧ intV f xs L bu ms = []) := Lib.hid (by
      have : intE f xs L bu ms = (cpR f xs L bu).2 := by unfold intE; rw [if_neg he]
      exact ⟨this, by unfold intV; rw [this, if_neg he]⟩)
    clear he
    go_enter Try.func30, Try.ntmps30
    go_wp2_with fail
    refine HC.out.mono ?_
    rintro e w3 ⟨rfl, g3⟩
    go_wp2_with fail
    go_ret2
    exact ⟨none, 0, 0, by rw [HP.out.1]; rfl, by rw [HP.out.2]; exact RowsAt.nil _, g1.trans g3⟩
end
end Go.Proofs.Ytlilojpnhmfnaaa
