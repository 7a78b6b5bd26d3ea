/- Several texts of this claim in one file. (1) Contract: the reference's CheckPlan. (2) Plain law: the states of an interrupted update, position by position. No program in sight. (3) Contract: Interrupt. (4) Contracts: the reference's Interrupt; Back and the reference's. -/
import Derived.Test.YtlilojpnhmfnaaaBd6
namespace Go.Proofs.Ytlilojpnhmfnaaa
section
open Go.RowKit

theorem dur_zero_iff {f : Fl} (hok : FlOk f) {a b : List Int} (ha : StOk f a) (hb : StOk f b) (h : aboveV b a = true) : 0 ≤ dur f.times a b ∧ (dur f.times a b = 0 ↔ a = b) := by
  have hle : ∀ c, c < f.times.length → a[c]?.getD 0 ≤ b[c]?.getD 0 := fun c hc => aboveV_le h c (by rw [hb.len]; exact hc)
  have h1 := durTo_bd hok (fun c hc => (ha.ver c hc).1) hb hle f.times.length (Nat.le_refl _)
  have h2 := durTo_zero_iff hok (fun c hc => (ha.ver c hc).1) hb hle f.times.length (Nat.le_refl _)
  unfold dur
  rw [hb.len]
  refine ⟨h1.1, h2.trans ⟨fun he => ?_, fun he => by subst he; intros; rfl⟩⟩
  have hl : a.length = b.length := by rw [ha.len, hb.len]
  exact (eqUpto_iff hl).1 (fun j hj => (he j (by rw [← ha.len]; exact hj)).symm)
theorem stepsB_stepV {f : Fl} (hok : FlOk f) {a b : List Int} (ha : StOk f a) (hb : StOk f b) {bu : Int} : stepsB f.times a b bu = true ↔ 0 ≤ stepV f.times a b ∧ stepV f.times a b ≤ bu := by
  unfold stepsB stepV
  cases h : aboveV b a with
  | false => simp
  | true =>
    have := dur_zero_iff hok ha hb h
    by_cases e : a = b
    · have hz := this.2.2 e
      simp [e] at hz ⊢
      simp [hz]
    · have hz : ¬ dur f.times a b = 0 := fun h => e (this.2.1 h)
      simp [e, hz]
      omega
theorem stepsB_false {f : Fl} (hok : FlOk f) {a b : List Int} (ha : StOk f a) (hb : StOk f b) {bu : Int} (h : stepsB f.times a b bu = false) : stepV f.times a b < 0 ∨ bu < stepV f.times a b := by
  have h1 : ¬ (stepsB f.times a b bu = true) := by simp [h]
  rw [stepsB_stepV hok ha hb] at h1
  omega
theorem stepsB_true2 {f : Fl} (hok : FlOk f) {a b : List Int} (ha : StOk f a) (hb : StOk f b) {bu : Int} (h : stepsB f.times a b bu = true) : 0 ≤ stepV f.times a b ∧ stepV f.times a b ≤ bu := (stepsB_stepV hok ha hb).1 h
theorem stepV_dur {f : Fl} (hok : FlOk f) {a b : List Int} (ha : StOk f a) (hb : StOk f b) {bu : Int} (h : stepsB f.times a b bu = true) : stepV f.times a b = dur f.times a b := by
  have h1 := (stepsB_true2 hok ha hb h).1
  unfold stepV at h1 ⊢
  split at h1
  · split at h1
    · omega
    · rename_i h2 h3; rw [if_pos h2, if_neg h3]
  · omega

theorem stsB_cons (T : List (List Int)) (a : List Int) (L : List (List Int)) : stsB T (a :: L) = (stB T a && stsB T L) := by
  unfold stsB
  rw [List.length_cons, List.range_succ_eq_map]
  simp [List.all_map, Function.comp_def]

theorem cpPre_ref {f : Fl} {a : List Int} {L : List (List Int)} {bu : Int} (h0 : chkE f = 0) (h1 : ¬ 64 < L.length) : (stB f.times a = false → cpPre f a L bu = 1) ∧ (stB f.times a = true → ¬ statesE f L = 0 → cpPre f a L bu = statesE f L) ∧
    (stB f.times a = true → statesE f L = 0 → withinB bu 0 1000000 = false → cpPre f a L bu = 1) ∧ (stB f.times a = true → statesE f L = 0 → withinB bu 0 1000000 = true → cpPre f a L bu = 0) := by
  have hc : chkB f = true := by
    cases h : chkB f with
    | true => rfl
    | false => rw [chkE_of_false h] at h0; omega
  have e : cpPre f a L bu = beginE f bu (a :: L) := by unfold cpPre; rw [if_pos h0, if_neg h1]
  have e2 : statesE f (a :: L) = if stB f.times a && stsB f.times L then 0 else 1 := by unfold statesE; rw [if_pos hc, stsB_cons]
  have e3 : statesE f L = if stsB f.times L then 0 else 1 := by unfold statesE; rw [if_pos hc]
  refine ⟨fun hs => ?_, fun hs hl => ?_, fun hs hl hb => ?_, fun hs hl hb => ?_⟩
  · rw [e]; unfold beginE; rw [e2, hs]; simp
  · cases hl2 : stsB f.times L with
    | true => rw [e3, hl2] at hl; simp at hl
    | false => rw [e]; unfold beginE; rw [e2, e3, hs, hl2]; simp
  · cases hl2 : stsB f.times L with
    | true => rw [e]; unfold beginE; rw [e2, hs, hl2, hb]; simp
    | false => rw [e3, hl2] at hl; simp at hl
  · cases hl2 : stsB f.times L with
    | true => rw [e]; unfold beginE; rw [e2, hs, hl2, hb]; simp
    | false => rw [e3, hl2] at hl; simp at hl

set_option maxRecDepth 100000 in
set_option maxHeartbeats 4000000 in
theorem checkPlan2_any (ta ca a pa : Option Addr) (tn tc cn cc n c pn pc : Nat) (f : Fl) (xs : List Int) (L : List (List Int)) (bu : Int) (w : World) (hf : FlAt w ta tn ca cn f) (hx : Ints w a n xs) (hL : RowsAt w pa pn L) :
    Calls Try.prog 29 #[.agg #[.slice ta tn tc, .slice ca cn cc], .slice a n c, .slice pa pn pc, .int .i64 bu] w fun e w' => e = .returned (.tuple #[.int .i64 (cpR f xs L bu).1, .int .i64 (cpR f xs L bu).2]) ∧ Gr w w' := by
  have g1 := Gr.alloc w (.cells #[.slice ta tn tc, .slice ca cn cc] 25)
  have c0 := cell_new (w := w) (t := 25) (cs := #[.slice ta tn tc, .slice ca cn cc]) (j := 0) rfl
  have c1 := cell_new (w := w) (t := 25) (cs := #[.slice ta tn tc, .slice ca cn cc]) (j := 1) rfl
  obtain ⟨w1, hw1⟩ : ∃ w1, w.alloc (.cells #[.slice ta tn tc, .slice ca cn cc] 25) = w1 := ⟨_, rfl⟩
  rw [hw1] at g1 c0 c1
  have HC := Lib.hid (check2_any ta ca tn tc cn cc f w1 (hf.gr g1))
  have hpl := hL.lt
  by_cases he : chkE f = 0
  · have heb : (chkE f != 0) = false := by simp [he]
    by_cases h64 : 64 < pn
    · have HP : Hid (cpR f xs L bu = (0, 1)) := Lib.hid (by unfold cpR cpPre; rw [if_pos he, hL.len, if_pos h64]; rfl)
      clear he
      go_enter Try.func29, Try.ntmps29
      go_wp2_with fail
      refine HC.out.mono ?_
      rintro e w3 ⟨rfl, g3⟩
      go_wp2_with fail
      go_ret2
      exact ⟨by rw [HP.out]; rfl, g1.trans g3⟩
    have hpre := cpPre_ref (a := xs) (bu := bu) he (by rw [hL.len]; exact h64)
    have HPRE := Lib.hid hpre
    have HE := Lib.hid he
    clear he hpre
    go_enter Try.func29, Try.ntmps29
    go_wp2_with fail
    refine HC.out.mono ?_
    rintro e w3 ⟨rfl, g3⟩
    have G3 := g1.trans g3
    have d0 := (g3.cell (lt_cell c0)).trans c0
    have d1 := (g3.cell (lt_cell c1)).trans c1
    clear hw1 c0 c1 HC g1 g3
    have HS := Lib.hid (state_any ta ca a tn tc cn cc n c f xs w3 (hf.gr G3) (hx.gr G3))
    go_wp2_with fail
    refine HS.out.mono ?_
    rintro e w4 ⟨rfl, g4⟩
    have G4 := G3.trans g4
    have e0 := (g4.cell (lt_cell d0)).trans d0
    have e1 := (g4.cell (lt_cell d1)).trans d1
    clear d0 d1 HS g4
    cases hst : stB f.times xs with
    | false =>
      have HP : Hid (cpR f xs L bu = (0, 1)) := Lib.hid (by unfold cpR; rw [HPRE.out.1 hst]; rfl)
      clear hst
      go_wp2_with fail
      go_ret2
      exact ⟨by rw [HP.out]; rfl, G4⟩
    | true =>
      have HSD := Lib.hid (stated_any ta ca pa tn tc cn cc pn pc f L w4 (hf.gr G4) (hL.gr G4))
      have HST := Lib.hid hst
      clear hst
      go_wp2_with fail
      refine HSD.out.mono ?_
      rintro e w5 ⟨rfl, g5⟩
      have G5 := G4.trans g5
      have k0 := (g5.cell (lt_cell e0)).trans e0
      have k1 := (g5.cell (lt_cell e1)).trans e1
      clear e0 e1 HSD g5
      by_cases hl0 : statesE f L = 0
      · have hlb : (statesE f L != 0) = false := by simp [hl0]
        have HL0 := Lib.hid hl0
        clear hl0
        cases hb : withinB bu 0 1000000 with
        | false =>
          have HP : Hid (cpR f xs L bu = (0, 1)) := Lib.hid (by unfold cpR; rw [HPRE.out.2.2.1 HST.out HL0.out hb]; rfl)
          go_wp2_with (go_at_call 63; refine (within2_any _ _ _ _).mono ?_; rintro e w' ⟨rfl, rfl⟩)
          go_ret2
          exact ⟨by rw [HP.out]; rfl, G5⟩
        | true =>
          have hok : FlOk f := chkB_ok (statesE_zero HL0.out).1
          have hst := stB_ok HST.out
          have hall : ∀ j, j < L.length → StOk f (L[j]?.getD []) := by
            have h1 := (statesE_zero HL0.out).2
            simp only [stsB, List.all_eq_true, List.mem_range] at h1
            exact fun j hj => stB_ok (h1 j hj)
          have hnt : n = f.times.length := by rw [← hst.len, hx.len]
          have HPR : Hid (cpR f xs L bu = if worksB f xs then cpLoop f bu xs L 0 else (-1, 111)) := Lib.hid (by unfold cpR; rw [HPRE.out.2.2.2 HST.out HL0.out hb, if_pos rfl])
          have HNT := Lib.hid hnt
          have HALL := Lib.hid hall
          have HOK := Lib.hid hok
          have h0 := clashI_of f xs
          have HW := Lib.hid (clash2_any ta ca a tn tc cn cc n c f xs w5 (hf.gr G5) hok (hx.gr G5) hst)
          clear hnt hall hok HPRE
          go_wp2_with (go_at_call 63; refine (within2_any _ _ _ _).mono ?_; rintro e w' ⟨rfl, rfl⟩)
          refine HW.out.mono ?_
          rintro e w6 ⟨rfl, g6⟩
          have G6 := G5.trans g6
          have j0 := (g6.cell (lt_cell k0)).trans k0
          have j1 := (g6.cell (lt_cell k1)).trans k1
          clear k0 k1 HW g6
          cases hwx : worksB f xs with
          | false =>
            have HP : Hid (cpR f xs L bu = (-1, 111)) := Lib.hid (by rw [HPR.out, hwx]; rfl)
            have h0 := h0.2 hwx
            go_wp2_with fail
            go_ret2
            exact ⟨by rw [HP.out]; rfl, G6⟩
          | true =>
            have HP : Hid (cpR f xs L bu = cpLoop f bu xs L 0) := Lib.hid (by rw [HPR.out, hwx]; rfl)
            have h0 := h0.1 hwx
            clear HPR
            go_wp2_with fail
            go_loopw [12, 13] (fun s i wr => ∃ (k : Nat) (p : List Int) (qa : Option Addr) (qc : Nat), k ≤ pn ∧ i = .int .i64 k ∧ s = .slice qa n qc ∧ Gr w wr ∧ Ints wr qa n p ∧ StOk f p ∧ wr.cell? ⟨w.heap.size, 0, none⟩ = some (.slice ta tn tc) ∧ wr.cell? ⟨w.heap.size, 1, none⟩ = some (.slice ca cn cc) ∧ Hid (cpLoop f bu xs L 0 = cpLoop f bu p (L.drop k) k)) (fun _ i _ => pn - (intOf i).toNat)
            case atStart => exact ⟨0, xs, a, c, Nat.zero_le _, rfl, rfl, G6, hx.gr G6, hst, j0, j1, Lib.hid (by simp)⟩
            case round =>
              obtain ⟨k, p, qa, qc, hk, rfl, rfl, gr, hp, hps, m0, m1, HL⟩ := hrel
              by_cases hlt : k < pn
              · obtain ⟨pd, ya, yn, yc, rfl, hpb, hpc, hyi⟩ := (hL.gr gr).at hlt
                have hys : StOk f (L[k]?.getD []) := HALL.out k (by rw [hL.len]; exact hlt)
                have hyn : yn = n := by rw [← hyi.len, hys.len]; exact HNT.out.symm
                subst hyn
                have hdr : Hid (L.drop k = (L[k]?.getD []) :: L.drop (k + 1)) := Lib.hid (by
                  have hl : k < L.length := by rw [hL.len]; exact hlt
                  rw [List.drop_eq_getElem_cons hl]; simp [hl])
                generalize L[k]?.getD [] = y at *
                obtain ⟨n, hnn⟩ : ∃ n, n = yn := ⟨_, rfl⟩
                subst hnn
                have HCL : Hid (∀ W, Gr wr W → Calls Try.prog 69 #[.agg #[.slice ta tn tc, .slice ca cn cc], .slice ya n yc] W fun e w' => e = .returned (.int .i64 (clashI f y)) ∧ Gr W w') := Lib.hid (fun W g => clash2_any ta ca ya tn tc cn cc n yc f y W (hf.gr (gr.trans g)) HOK.out (hyi.gr g) hys)
                obtain ⟨cb, hge, hcb⟩ : ∃ cb, decide (0 ≤ clashI f y) = cb ∧ Hid ((!cb) = worksB f y) := ⟨_, rfl, Lib.hid (by unfold worksB; by_cases h : clashI f y < 0 <;> simp [h] <;> omega)⟩
                go_wp2_with fail
                refine (wpIn_wide (n := 0)).1 ?_
                refine region_inv (F := Fence.wide) (by kernel_rfl) (by rfl) (by decide) (fun _ => trivial)
                  (fun done' u W' => Kn [some (.agg #[.slice ta tn tc, .slice ca cn cc]), some (.slice (some pd) pn pc), some (.int .i64 k), some (.pointer (some (pd.add k))), some (.slice ya n yc), some (.int .i64 (clashI f y)), some (.bool cb)] done' u ∧ Gr wr W')
                  (fun u => ⟨Kn.start _ _, Gr.drew wr⟩) ⟨?_, ?_, ?_, ?_, ?_, ?_, ?_, trivial⟩ ?_
                · rintro u done' W' hd hanc hclo ⟨hk, hg⟩
                  have c_m0 := (hg.cell (lt_cell m0)).trans m0
                  have c_m1 := (hg.cell (lt_cell m1)).trans m1
                  refine op_plain (ro := none) rfl (fun c h => by cases h) fun K hK => ?_
                  simp only [fillL, List.setIfInBounds_toArray, List.set_cons_zero, List.set_cons_succ, Nat.zero_add, Nat.reduceAdd] at hK ⊢
                  go_simp
                  exact hK _ _ ⟨hk.new rfl, hg⟩
                · rintro u done' W' hd hanc hclo ⟨hk, hg⟩
                  refine op_plain (ro := none) rfl (fun c h => by cases h) fun K hK => ?_
                  simp only [fillL, List.setIfInBounds_toArray, List.set_cons_zero, List.set_cons_succ, Nat.zero_add, Nat.reduceAdd] at hK ⊢
                  go_simp
                  exact hK _ _ ⟨hk.new rfl, hg⟩
                · rintro u done' W' hd hanc hclo ⟨hk, hg⟩
                  refine op_plain (ro := none) rfl (fun c h => by cases h) fun K hK => ?_
                  simp only [fillL, List.setIfInBounds_toArray, List.set_cons_zero, List.set_cons_succ, Nat.zero_add, Nat.reduceAdd] at hK ⊢
                  go_simp
                  exact hK _ _ ⟨hk.new rfl, hg⟩
                · rintro u done' W' hd hanc hclo ⟨hk, hg⟩
                  have e1 := hk.get 1 rfl (hanc 1 (mem_of (by kernel_rfl)))
                  have e2 := hk.get 2 rfl (hanc 2 (mem_of (by kernel_rfl)))
                  refine op_plain (ro := none) rfl (fun c h => by cases h) fun K hK => ?_
                  simp only [fillL, List.setIfInBounds_toArray, List.set_cons_zero, List.set_cons_succ, Nat.zero_add, Nat.reduceAdd, e1, e2] at hK ⊢
                  go_simp
                  exact hK _ _ ⟨hk.new rfl, hg⟩
                · rintro u done' W' hd hanc hclo ⟨hk, hg⟩
                  have e3 := hk.get 3 rfl (hanc 3 (mem_of (by kernel_rfl)))
                  have c_hpc := (hg.cell (lt_cell hpc)).trans hpc
                  refine op_plain (ro := none) rfl (fun c h => by cases h) fun K hK => ?_
                  simp only [fillL, List.setIfInBounds_toArray, List.set_cons_zero, List.set_cons_succ, Nat.zero_add, Nat.reduceAdd, e3] at hK ⊢
                  go_simp
                  exact hK _ _ ⟨hk.new rfl, hg⟩
                · rintro u done' W' hd hanc hclo ⟨hk, hg⟩
                  have e0 := hk.get 0 rfl (hanc 0 (mem_of (by kernel_rfl)))
                  have e4 := hk.get 4 rfl (hanc 4 (mem_of (by kernel_rfl)))
                  have HCON := Lib.hid (HCL.out W' hg)
                  refine op_plain (ro := none) rfl (fun c h => by cases h) fun K hK => ?_
                  simp only [fillL, List.setIfInBounds_toArray, List.set_cons_zero, List.set_cons_succ, Nat.zero_add, Nat.reduceAdd, e0, e4] at hK ⊢
                  go_simp
                  refine HCON.out.mono ?_
                  rintro e w6 ⟨rfl, hg6⟩
                  exact hK _ _ ⟨hk.new rfl, hg.trans hg6⟩
                · rintro u done' W' hd hanc hclo ⟨hk, hg⟩
                  have e5 := hk.get 5 rfl (hanc 5 (mem_of (by kernel_rfl)))
                  refine op_plain (ro := none) rfl (fun c h => by cases h) fun K hK => ?_
                  simp only [fillL, List.setIfInBounds_toArray, List.set_cons_zero, List.set_cons_succ, Nat.zero_add, Nat.reduceAdd, e5] at hK ⊢
                  go_simp
                  exact hK _ _ ⟨hk.new rfl, hg⟩
                · rintro u W' ⟨done', hdn, hk, hg⟩
                  have e6 := hk.get 6 rfl (hdn 6 (by decide))
                  simp only [fillL, List.setIfInBounds_toArray, List.set_cons_zero, List.set_cons_succ, Nat.zero_add, Nat.reduceAdd, e6]
                  clear hk hdn e6
                  have G6 := gr.trans hg
                  have q0 := (hg.cell (lt_cell m0)).trans m0
                  have q1 := (hg.cell (lt_cell m1)).trans m1
                  have qpc := (hg.cell (lt_cell hpc)).trans hpc
                  have g6 := hg
                  clear HCL m0 m1 hpc
                  cases cb with
                  | true =>
                    have hwy : worksB f y = false := by simpa using hcb.out
                    have HF : Hid (cpR f xs L bu = ((k : Int), 111)) := Lib.hid (by rw [HP.out, HL.out, hdr.out]; simp [cpLoop, hwy])
                    clear hwy hcb hge
                    go_wp2_with fail
                    go_ret2
                    exact ⟨by rw [HF.out]; rfl, G6⟩
                  | false =>
                    have hwy : Hid (worksB f y = true) := Lib.hid (by simpa using hcb.out)
                    clear hcb hge
                    have HST : Hid (∀ W, Gr W' W → Calls Try.prog 70 #[.agg #[.slice ta tn tc, .slice ca cn cc], .slice qa n qc, .slice ya n yc] W fun e w' => e = .returned (.int .i64 (stepV f.times p y)) ∧ Gr W w') := Lib.hid (fun W g => step_any ta ca qa ya tn tc cn cc n qc yc f p y W (hf.gr (G6.trans g)) HOK.out (hp.gr (g6.trans g)) (hyi.gr (g6.trans g)) hps hys)
                    clear hg
                    obtain ⟨w6, hw6⟩ : ∃ w6, w6 = W' := ⟨_, rfl⟩
                    subst hw6
                    go_wp2_with fail
                    refine (wpIn_wide (n := 0)).1 ?_
                    refine region_inv (F := Fence.wide) (by kernel_rfl) (by rfl) (by decide) (fun _ => trivial)
                      (fun done' u W' => Kn [some (.agg #[.slice ta tn tc, .slice ca cn cc]), some (.slice qa n qc), some (.slice (some pd) pn pc), some (.int .i64 k), some (.pointer (some (pd.add k))), some (.slice ya n yc), some (.int .i64 (stepV f.times p y)), some (.int .i64 (stepV f.times p y))] done' u ∧ Gr w6 W')
                      (fun u => ⟨Kn.start _ _, Gr.drew w6⟩) ⟨?_, ?_, ?_, ?_, ?_, ?_, ?_, ?_, trivial⟩ ?_
                    · rintro u done' W' hd hanc hclo ⟨hk, hg⟩
                      have c_q0 := (hg.cell (lt_cell q0)).trans q0
                      have c_q1 := (hg.cell (lt_cell q1)).trans q1
                      refine op_plain (ro := none) rfl (fun c h => by cases h) fun K hK => ?_
                      simp only [fillL, List.setIfInBounds_toArray, List.set_cons_zero, List.set_cons_succ, Nat.zero_add, Nat.reduceAdd] at hK ⊢
                      go_simp
                      exact hK _ _ ⟨hk.new rfl, hg⟩
                    · rintro u done' W' hd hanc hclo ⟨hk, hg⟩
                      refine op_plain (ro := none) rfl (fun c h => by cases h) fun K hK => ?_
                      simp only [fillL, List.setIfInBounds_toArray, List.set_cons_zero, List.set_cons_succ, Nat.zero_add, Nat.reduceAdd] at hK ⊢
                      go_simp
                      exact hK _ _ ⟨hk.new rfl, hg⟩
                    · rintro u done' W' hd hanc hclo ⟨hk, hg⟩
                      refine op_plain (ro := none) rfl (fun c h => by cases h) fun K hK => ?_
                      simp only [fillL, List.setIfInBounds_toArray, List.set_cons_zero, List.set_cons_succ, Nat.zero_add, Nat.reduceAdd] at hK ⊢
                      go_simp
                      exact hK _ _ ⟨hk.new rfl, hg⟩
                    · rintro u done' W' hd hanc hclo ⟨hk, hg⟩
                      refine op_plain (ro := none) rfl (fun c h => by cases h) fun K hK => ?_
                      simp only [fillL, List.setIfInBounds_toArray, List.set_cons_zero, List.set_cons_succ, Nat.zero_add, Nat.reduceAdd] at hK ⊢
                      go_simp
                      exact hK _ _ ⟨hk.new rfl, hg⟩
                    · rintro u done' W' hd hanc hclo ⟨hk, hg⟩
                      have e2 := hk.get 2 rfl (hanc 2 (mem_of (by kernel_rfl)))
                      have e3 := hk.get 3 rfl (hanc 3 (mem_of (by kernel_rfl)))
                      refine op_plain (ro := none) rfl (fun c h => by cases h) fun K hK => ?_
                      simp only [fillL, List.setIfInBounds_toArray, List.set_cons_zero, List.set_cons_succ, Nat.zero_add, Nat.reduceAdd, e2, e3] at hK ⊢
                      go_simp
                      exact hK _ _ ⟨hk.new rfl, hg⟩
                    · rintro u done' W' hd hanc hclo ⟨hk, hg⟩
                      have e4 := hk.get 4 rfl (hanc 4 (mem_of (by kernel_rfl)))
                      have c_qpc := (hg.cell (lt_cell qpc)).trans qpc
                      refine op_plain (ro := none) rfl (fun c h => by cases h) fun K hK => ?_
                      simp only [fillL, List.setIfInBounds_toArray, List.set_cons_zero, List.set_cons_succ, Nat.zero_add, Nat.reduceAdd, e4] at hK ⊢
                      go_simp
                      exact hK _ _ ⟨hk.new rfl, hg⟩
                    · rintro u done' W' hd hanc hclo ⟨hk, hg⟩
                      have e0 := hk.get 0 rfl (hanc 0 (mem_of (by kernel_rfl)))
                      have e1 := hk.get 1 rfl (hanc 1 (mem_of (by kernel_rfl)))
                      have e5 := hk.get 5 rfl (hanc 5 (mem_of (by kernel_rfl)))
                      have HCON := Lib.hid (HST.out W' hg)
                      refine op_plain (ro := none) rfl (fun c h => by cases h) fun K hK => ?_
                      simp only [fillL, List.setIfInBounds_toArray, List.set_cons_zero, List.set_cons_succ, Nat.zero_add, Nat.reduceAdd, e0, e1, e5] at hK ⊢
                      go_simp
                      refine HCON.out.mono ?_
                      rintro e w7 ⟨rfl, hg6⟩
                      exact hK _ _ ⟨hk.new rfl, hg.trans hg6⟩
                    · rintro u done' W' hd hanc hclo ⟨hk, hg⟩
                      have e6 := hk.get 6 rfl (hanc 6 (mem_of (by kernel_rfl)))
                      refine op_plain (ro := none) rfl (fun c h => by cases h) fun K hK => ?_
                      simp only [fillL, List.setIfInBounds_toArray, List.set_cons_zero, List.set_cons_succ, Nat.zero_add, Nat.reduceAdd, e6] at hK ⊢
                      go_simp
                      exact hK _ _ ⟨hk.new rfl, hg⟩
                    · rintro u W' ⟨done', hdn, hk, hg⟩
                      have e7 := hk.get 7 rfl (hdn 7 (by decide))
                      simp only [fillL, List.setIfInBounds_toArray, List.set_cons_zero, List.set_cons_succ, Nat.zero_add, Nat.reduceAdd, e7]
                      clear hk hdn e7
                      have G7 := G6.trans hg
                      have r0 := (hg.cell (lt_cell q0)).trans q0
                      have r1 := (hg.cell (lt_cell q1)).trans q1
                      have rpc := (hg.cell (lt_cell qpc)).trans qpc
                      clear q0 q1 qpc
                      cases hsy : stepsB f.times p y bu with
                      | false =>
                        have HF : Hid (cpR f xs L bu = ((k : Int), 112)) := Lib.hid (by rw [HP.out, HL.out, hdr.out]; simp [cpLoop, hwy.out, hsy])
                        have hsv := stepsB_false HOK.out hps hys hsy
                        clear hsy
                        by_cases hneg : stepV f.times p y < 0
                        · go_wp2_with fail
                          go_ret2
                          exact ⟨by rw [HF.out]; rfl, G7⟩
                        · have hgt : bu < stepV f.times p y := by omega
                          go_wp2_with fail
                          go_ret2
                          exact ⟨by rw [HF.out]; rfl, G7⟩
                      | true =>
                        have HF : Hid (cpLoop f bu xs L 0 = cpLoop f bu y (L.drop (k + 1)) ((k + 1 : Nat) : Int)) := Lib.hid (by rw [HL.out, hdr.out]; simp [cpLoop, hwy.out, hsy])
                        have hsv := stepsB_true2 HOK.out hps hys hsy
                        have hneg : ¬ stepV f.times p y < 0 := by omega
                        have hgt : ¬ bu < stepV f.times p y := by omega
                        have hy7 := (hyi.gr g6).gr hg
                        clear hsy hsv
                        go_wp2_with fail
                        go_roundw
                        case rel => exact ⟨k + 1, y, ya, yc, by omega, by go_num, rfl, G7, hy7, hys, r0, r1, HF⟩
                        case measure => simp [intOf]; omega
              · obtain rfl : k = pn := by omega
                have HF : Hid (cpR f xs L bu = (0, 0)) := Lib.hid (by rw [HP.out, HL.out, List.drop_eq_nil_of_le (by rw [hL.len]; exact Nat.le_refl _)]; rfl)
                go_wp2_with fail
                go_ret2
                exact ⟨by rw [HF.out]; rfl, gr⟩
      · have hlb : (statesE f L != 0) = true := by simp [hl0]
        have HP : Hid (cpR f xs L bu = (0, statesE f L)) := Lib.hid (by unfold cpR; rw [HPRE.out.2.1 HST.out hl0, if_neg hl0])
        clear hl0
        go_wp2_with fail
        go_ret2
        exact ⟨by rw [HP.out]; rfl, G5⟩
  · have heb : (chkE f != 0) = true := by simp [he]
    have HP : Hid (cpR f xs L bu = (0, chkE f)) := Lib.hid (by unfold cpR cpPre; rw [if_neg he, if_neg he])
    clear he
    go_enter Try.func29, Try.ntmps29
    go_wp2_with fail
    refine HC.out.mono ?_
    rintro e w3 ⟨rfl, g3⟩
    go_wp2_with fail
    go_ret2
    exact ⟨by rw [HP.out]; rfl, g1.trans g3⟩
end
section
def nxt (T : List (List Int)) (xs : List Int) (L : List (List Int)) (a : Nat) (m : Int) : Nat := if a < L.length ∧ dur T (pAt xs L a) (pAt xs L (a + 1)) ≤ m then a + 1 else a
def posL (T : List (List Int)) (xs : List Int) (L : List (List Int)) : Nat → List Int → List Nat
  | _, [] => []
  | a, m :: r => nxt T xs L a m :: posL T xs L (nxt T xs L a m) r

theorem pAt_succ {xs : List Int} {L : List (List Int)} {a : Nat} : pAt xs L (a + 1) = L[a]?.getD [] := by simp [pAt]
theorem drop_pAt {xs : List Int} {L : List (List Int)} {a : Nat} (h : a < L.length) : L.drop a = pAt xs L (a + 1) :: L.drop (a + 1) := by
  rw [pAt_succ, List.drop_eq_getElem_cons h]; simp [h]
theorem intr_pos (T : List (List Int)) (xs : List Int) (L : List (List Int)) : ∀ (ms : List Int) (a : Nat), a ≤ L.length → intr T (pAt xs L a) (L.drop a) ms = (posL T xs L a ms).map (pAt xs L) := by
  intro ms
  induction ms with
  | nil => intro a _; cases L.drop a <;> simp [intr, posL]
  | cons m r ih =>
    intro a ha
    by_cases hl : a < L.length
    · rw [drop_pAt (xs := xs) hl]
      by_cases hd : dur T (pAt xs L a) (pAt xs L (a + 1)) ≤ m
      · simp only [intr, posL, nxt, hl, hd, and_self, if_true, List.map_cons]
        rw [ih (a + 1) hl]
      · simp only [intr, posL, nxt, hd, and_false, if_false, List.map_cons]
        rw [← drop_pAt (xs := xs) hl, ih a ha]
    · have e : L.drop a = [] := List.drop_eq_nil_of_le (by omega)
      rw [e]
      simp only [intr, posL, nxt, hl, false_and, if_false, List.map_cons]
      rw [← ih a ha, e]
theorem intr_all (T : List (List Int)) (xs : List Int) (L : List (List Int)) (ms : List Int) : intr T xs L ms = (posL T xs L 0 ms).map (pAt xs L) := by
  have := intr_pos T xs L ms 0 (Nat.zero_le _)
  simpa [pAt] using this
theorem posL_len (T : List (List Int)) (xs : List Int) (L : List (List Int)) : ∀ (ms : List Int) (a : Nat), (posL T xs L a ms).length = ms.length := by
  intro ms
  induction ms with
  | nil => intro a; rfl
  | cons m r ih => intro a; simp [posL, ih]
/-- one round: the state is the one before, or the next one of the plan -/
theorem pos_step {T : List (List Int)} {xs : List Int} {L : List (List Int)} {ms : List Int} {k A : Nat} (hk : k < ms.length) (h : posL T xs L A (ms.drop k) = (posL T xs L 0 ms).drop k) :
    ∃ B, (intr T xs L ms)[k]?.getD [] = pAt xs L B ∧ posL T xs L B (ms.drop (k + 1)) = (posL T xs L 0 ms).drop (k + 1) ∧ (B = A ∨ (B = A + 1 ∧ A < L.length)) := by
  have hd : ms.drop k = (ms[k]?.getD 0) :: ms.drop (k + 1) := by rw [List.drop_eq_getElem_cons hk]; simp [hk]
  have hl : k < (posL T xs L 0 ms).length := by rw [posL_len]; exact hk
  have hp : (posL T xs L 0 ms).drop k = (posL T xs L 0 ms)[k] :: (posL T xs L 0 ms).drop (k + 1) := List.drop_eq_getElem_cons hl
  rw [hd, hp, posL] at h
  injection h with h1 h2
  refine ⟨nxt T xs L A (ms[k]?.getD 0), ?_, h2, ?_⟩
  · rw [intr_all, List.getElem?_map, List.getElem?_eq_getElem hl, ← h1]; rfl
  · unfold nxt; split
    · rename_i hh; exact .inr ⟨rfl, hh.1⟩
    · exact .inl rfl

theorem okPlan_ne {f : Fl} {bu : Int} : ∀ (L : List (List Int)) (xs : List Int), okPlan f bu xs L → ∀ k, k < L.length → pAt xs L k ≠ pAt xs L (k + 1) ∧ worksB f (pAt xs L (k + 1)) = true ∧ dur f.times (pAt xs L k) (pAt xs L (k + 1)) ≤ bu := by
  intro L
  induction L with
  | nil => intro xs _ k hk; simp at hk
  | cons s r ih =>
    intro xs h k hk
    cases k with
    | zero =>
      have := h.2.1
      simp only [stepsB, Bool.and_eq_true, Bool.not_eq_true', decide_eq_false_iff_not, decide_eq_true_eq] at this
      exact ⟨by simpa [pAt] using this.1.2, by simpa [pAt] using h.1, by simpa [pAt] using this.2⟩
    | succ k => have := ih s h.2.2 k (by simpa using hk); simpa [pAt] using this
theorem PlOk.works {f : Fl} {bu : Int} {xs : List Int} {L : List (List Int)} (h : PlOk f bu xs L) (hx : worksB f xs = true) {k : Nat} (hk : k ≤ L.length) : worksB f (pAt xs L k) = true := by
  cases k with
  | zero => simpa [pAt] using hx
  | succ k => exact (okPlan_ne L xs h.pl k (by omega)).2.1
theorem cpR_chk {f : Fl} {xs : List Int} {L : List (List Int)} {bu : Int} (h : (cpR f xs L bu).2 = 0) : chkB f = true ∧ worksB f xs = true ∧ 0 ≤ bu := by
  unfold cpR at h
  by_cases hp : cpPre f xs L bu = 0
  · rw [if_pos hp] at h
    by_cases hw : worksB f xs = true
    · have hp2 := hp
      unfold cpPre at hp2
      by_cases hc : chkE f = 0
      · rw [if_pos hc] at hp2
        split at hp2
        · omega
        · have hb : statesE f (xs :: L) = 0 ∧ withinB bu 0 1000000 = true := by
            unfold beginE at hp2
            by_cases hz : statesE f (xs :: L) = 0
            · rw [if_pos hz] at hp2
              refine ⟨hz, ?_⟩
              cases hb : withinB bu 0 1000000 with
              | true => rfl
              | false => rw [hb] at hp2; simp at hp2
            · rw [if_neg hz] at hp2; exact absurd hp2 hz
          refine ⟨(statesE_zero hb.1).1, hw, ?_⟩
          have := hb.2
          simp [withinB] at this; omega
      · rw [if_neg hc] at hp2; exact absurd hp2 hc
    · rw [if_neg hw] at h; simp at h
  · rw [if_neg hp] at h; exact absurd h hp
theorem wE_zero {f : Fl} {s : List Int} (h1 : chkB f = true) (hs : StOk f s) : wE f s = 0 := by
  unfold wE statesE
  rw [if_pos h1, stsB_cons, hs.b]
  simp [stsB]
theorem wB_true {f : Fl} {s : List Int} (h : chkB f = true) (hs : StOk f s) (hw : worksB f s = true) : wB f s = true := by
  unfold wB; rw [show statesE f [s] = 0 from wE_zero h hs, if_pos rfl]; exact hw

/-- with parked times as long as the budget every one is a step -/
theorem posL_full {f : Fl} {bu : Int} {xs : List Int} {L : List (List Int)} (h : okPlan f bu xs L) : ∀ (n a : Nat), a + n = L.length → (posL f.times xs L a (List.replicate n bu)).map (pAt xs L) = L.drop a := by
  intro n
  induction n with
  | zero => intro a ha; rw [List.drop_eq_nil_of_le (by omega)]; rfl
  | succ n ih =>
    intro a ha
    have hl : a < L.length := by omega
    have h1 := okPlan_ne L xs h a hl
    rw [List.replicate_succ]
    simp only [posL, nxt, hl, h1.2.2, and_self, if_true, List.map_cons]
    rw [ih (a + 1) (by omega), ← drop_pAt hl]
theorem intr_full {f : Fl} {bu : Int} {xs : List Int} {L : List (List Int)} (h : okPlan f bu xs L) : intr f.times xs L (List.replicate L.length bu) = L := by
  rw [intr_all, posL_full h L.length 0 (by omega)]; rfl
theorem int_full {f : Fl} {bu : Int} {xs : List Int} {L : List (List Int)} (hc : (cpR f xs L bu).2 = 0) (hb : 0 ≤ bu) : intE f xs L bu (List.replicate L.length bu) = 0 ∧ intV f xs L bu (List.replicate L.length bu) = L := by
  have hp := cpR_pl hc
  have h1 : intE f xs L bu (List.replicate L.length bu) = 0 := by
    unfold intE
    have h64 := hp.n64
    have h2 : (List.replicate L.length bu).any (fun n => decide (n < 0)) = false := by
      rw [List.any_eq_false]; intro x hx
      have := List.eq_of_mem_replicate hx
      subst this; simp; omega
    rw [if_pos hc, if_neg (by rw [List.length_replicate]; omega), h2]; rfl
  exact ⟨h1, by unfold intV; rw [if_pos h1]; exact intr_full hp.pl⟩
theorem int_full2 {f : Fl} {bu : Int} {xs : List Int} {L : List (List Int)} {n : Nat} (hc : (cpR f xs L bu).2 = 0) (hb : 0 ≤ bu) (hn : L.length = n) : intE f xs L bu (List.replicate n bu) = 0 ∧ intV f xs L bu (List.replicate n bu) = L := by
  subst hn; exact int_full hc hb
theorem bk_len (xs : List Int) (L : List (List Int)) : ∀ d, (bk xs L d).length = d := by
  intro d
  induction d with
  | zero => rfl
  | succ d ih => simp [bk, ih]
theorem bk_at (xs : List Int) (L : List (List Int)) : ∀ d j, j < d → (bk xs L d)[j]?.getD [] = pAt xs L (d - 1 - j) := by
  intro d
  induction d with
  | zero => intro j hj; omega
  | succ d ih =>
    intro j hj
    cases j with
    | zero => simp [bk]
    | succ j =>
      simp only [bk, List.getElem?_cons_succ]
      rw [ih j (by omega)]
      congr 1; omega
theorem back_ok {f : Fl} {bu : Int} {xs : List Int} {L : List (List Int)} (hc : (cpR f xs L bu).2 = 0) {d : Nat} (hd : d ≤ L.length) : backE f xs L bu d = 0 ∧ backV f xs L bu d = bk xs L d := by
  have h1 : backE f xs L bu d = 0 := by
    unfold backE; rw [if_pos hc, show withinB (d : Int) 0 L.length = true from by simp [withinB]; omega]; rfl
  exact ⟨h1, by unfold backV; rw [if_pos h1]; rfl⟩
end
section
open Go.RowKit

theorem inter1_any (n : Int) (w : World) : Calls Try.prog 72 #[.int .i64 n] w fun e w' => e = .returned (.bool (decide (n < 0))) ∧ Gr w w' := by
  go_enter Try.func72, Try.ntmps72
  go_wp2_with fail
  go_ret
  exact ⟨rfl, Gr.refl _⟩

set_option maxHeartbeats 1000000 in
theorem indexFunc72 (a : Option Addr) (n c : Nat) (xs : List Int) (w : World) (hx : Ints w a n xs) :
    Calls Try.prog 93 #[.slice a n c, .func (.func 72) #[] #[]] w (IdxPost (xs.any fun n => decide (n < 0)) w) := by
  have hn := hx.lt
  go_enter Try.func93, Try.ntmps93
  go_wp2
  go_loopw [8] (fun i wr => ∃ k : Nat, k ≤ n ∧ i = .int .i64 k ∧ Gr w wr ∧ Hid (∀ j, j < k → (decide (xs[j]?.getD 0 < 0)) = false)) (fun i _ => n - (intOf i).toNat)
  case atStart => exact ⟨0, Nat.zero_le _, rfl, Gr.refl _, Lib.hid (by intros; omega)⟩
  case round =>
    obtain ⟨k, hk, rfl, hg, hall⟩ := hrel
    by_cases hlt : k < n
    · obtain ⟨aa, rfl, hab, hac⟩ := (hx.gr hg).at hlt
      have HI := Lib.hid (inter1_any (xs[k]?.getD 0) wr)
      cases hb : (decide (xs[k]?.getD 0 < 0)) with
      | true =>
        rw [hb] at HI
        go_wp2_with (go_at_call 72; refine HI.out.mono ?_; rintro e w' ⟨rfl, hg2⟩)
        go_ret
        exact ⟨k, rfl, by rw [any_hit (p := fun n => decide (n < 0)) (by rw [hx.len]; exact hlt) hb]; simp, hg.trans hg2⟩
      | false =>
        rw [hb] at HI
        go_wp2_with (go_at_call 72; refine HI.out.mono ?_; rintro e w' ⟨rfl, hg2⟩)
        go_roundw
        case rel => exact ⟨k + 1, by omega, by go_num, hg.trans hg2, Lib.hid (fun j hj => by
          by_cases e : j = k
          · subst e; exact hb
          · exact hall.out j (by omega))⟩
        case measure => simp [intOf]; omega
    · obtain rfl : k = n := by omega
      go_wp2
      go_ret
      exact ⟨-1, rfl, by rw [any_none (p := fun n => decide (n < 0)) (fun j hj => hall.out j (by rw [← hx.len]; exact hj))]; simp, hg⟩

theorem containsFunc72 (a : Option Addr) (n c : Nat) (xs : List Int) (w : World) (hx : Ints w a n xs) :
    Calls Try.prog 71 #[.slice a n c, .func (.func 72) #[] #[]] w fun e w' => e = .returned (.bool (xs.any fun n => decide (n < 0))) ∧ Gr w w' := by
  go_enter Try.func71, Try.ntmps71
  go_wp2_with (go_at_call 93; refine (indexFunc72 _ _ _ _ _ hx).mono ?_; rintro e w' ⟨r, rfl, hr, hg⟩)
  go_ret
  exact ⟨rfl, by assumption⟩

theorem drop_at {ms : List Int} {k : Nat} (h : k < ms.length) : ms.drop k = (ms[k]?.getD 0) :: ms.drop (k + 1) := by
  rw [List.drop_eq_getElem_cons h]; simp [h]

set_option maxRecDepth 100000 in
set_option maxHeartbeats 4000000 in
theorem interrupt_any (ta ca a pa ma : Option Addr) (tn tc cn cc n c pn pc mn mc : Nat) (f : Fl) (xs ms : List Int) (L : List (List Int)) (bu : Int) (w : World) (hf : FlAt w ta tn ca cn f) (hx : Ints w a n xs) (hL : RowsAt w pa pn L) (hpc : pn ≤ pc) (hm : Ints w ma mn ms) :
    Calls Try.prog 30 #[.agg #[.slice ta tn tc, .slice ca cn cc], .slice a n c, .slice pa pn pc, .int .i64 bu, .slice ma mn mc] w (PlanPost w (intV f xs L bu ms) (intE f xs L bu ms)) := by
  have g1 := Gr.alloc w (.cells #[.slice ta tn tc, .slice ca cn cc] 25)
  have c0 := cell_new (w := w) (t := 25) (cs := #[.slice ta tn tc, .slice ca cn cc]) (j := 0) rfl
  have c1 := cell_new (w := w) (t := 25) (cs := #[.slice ta tn tc, .slice ca cn cc]) (j := 1) rfl
  obtain ⟨w1, hw1⟩ : ∃ w1, w.alloc (.cells #[.slice ta tn tc, .slice ca cn cc] 25) = w1 := ⟨_, rfl⟩
  rw [hw1] at g1 c0 c1
  have HC := Lib.hid (checkPlan_any ta ca a pa tn tc cn cc n c pn pc f xs L bu w1 (hf.gr g1) (hx.gr g1) (hL.gr g1))
  have hml := hm.lt
  by_cases he : (cpR f xs L bu).2 = 0
  · have heb : ((cpR f xs L bu).2 != 0) = false := by simp [he]
    have hpl := cpR_pl he
    have HE : Hid (intE f xs L bu ms = (if 64 < ms.length then 1 else if ms.any (fun n => decide (n < 0)) then 1 else 0)) := Lib.hid (by unfold intE; rw [if_pos he])
    have HPL := Lib.hid hpl
    have hn1 : 0 < n := by have := hpl.ok.n1; have := hpl.a.len; have := hx.len; omega
    have hn6 : n ≤ 6 := by have := hpl.ok.n6; have := hpl.a.len; have := hx.len; omega
    clear he hpl
    by_cases h64 : 64 < mn
    · have HP : Hid (intE f xs L bu ms = 1 ∧ intV f xs L bu ms = []) := Lib.hid (by
        have : intE f xs L bu ms = 1 := by rw [HE.out, hm.len, if_pos h64]
        exact ⟨this, by unfold intV; rw [this]; rfl⟩)
      have h64' : (64 : Int) < mn := by omega
      go_enter Try.func30, Try.ntmps30
      go_wp2_with fail
      refine HC.out.mono ?_
      rintro e w3 ⟨rfl, g3⟩
      go_wp2_with fail
      go_ret2
      exact ⟨none, 0, 0, by rw [HP.out.1]; rfl, by rw [HP.out.2]; exact RowsAt.nil _, g1.trans g3, Nat.le_refl _⟩
    have h64' : ¬ (64 : Int) < mn := by omega
    go_enter Try.func30, Try.ntmps30
    go_wp2_with fail
    refine HC.out.mono ?_
    rintro e w2 ⟨rfl, g2⟩
    have G2 := g1.trans g2
    have d0 := (g2.cell (lt_cell c0)).trans c0
    have d1 := (g2.cell (lt_cell c1)).trans c1
    clear hw1 c0 c1 HC g1 g2
    have HCF := Lib.hid (containsFunc72 ma mn mc ms w2 (hm.gr G2))
    go_wp2_with fail
    refine HCF.out.mono ?_
    rintro e w3 ⟨rfl, g3⟩
    have G3 := G2.trans g3
    have e0 := (g3.cell (lt_cell d0)).trans d0
    have e1 := (g3.cell (lt_cell d1)).trans d1
    clear d0 d1 HCF g3
    cases hany : ms.any (fun n => decide (n < 0)) with
    | true =>
      have HP : Hid (intE f xs L bu ms = 1 ∧ intV f xs L bu ms = []) := Lib.hid (by
        have : intE f xs L bu ms = 1 := by rw [HE.out, hm.len, if_neg h64, hany]; rfl
        exact ⟨this, by unfold intV; rw [this]; rfl⟩)
      go_wp2_with fail
      go_ret2
      exact ⟨none, 0, 0, by rw [HP.out.1]; rfl, by rw [HP.out.2]; exact RowsAt.nil _, G3, Nat.le_refl _⟩
    | false =>
      have HP : Hid (intE f xs L bu ms = 0 ∧ intV f xs L bu ms = intr f.times xs L ms) := Lib.hid (by
        have : intE f xs L bu ms = 0 := by rw [HE.out, hm.len, if_neg h64, hany]; rfl
        exact ⟨this, by unfold intV; rw [this]; rfl⟩)
      clear hany HE
      have hm3 := hm.gr G3
      have hf3 := hf.gr G3
      have HML := Lib.hid hm.len
      go_wp2_with fail
      go_loopw [1, 2, 10, 36] (fun s p o i wr => ∃ (k : Nat) (cur : List Int) (qa : Option Addr) (qc : Nat) (P : List (List Int)) (ra : Option Addr) (rn rc : Nat) (Lo : List (List Int)), k ≤ mn ∧ i = .int .i64 k ∧ s = .slice qa n qc ∧ p = .slice ra rn rc ∧ rn ≤ rc ∧ Gr w3 wr ∧ Ints w3 qa n cur ∧ RowsAt w3 ra rn P ∧ OutR wr w3.heap.size o Lo ∧ Lo.length = k ∧ Hid (PlOk f bu cur P) ∧ Hid (Lo ++ intr f.times cur P (ms.drop k) = intr f.times xs L ms)) (fun _ _ _ i _ => mn - (intOf i).toNat)
      case atStart => exact ⟨0, xs, a, c, L, pa, pn, pc, [], Nat.zero_le _, rfl, rfl, rfl, hpc, Gr.refl _, hx.gr G3, hL.gr G3, OutR.nil _ _, rfl, HPL, Lib.hid (by simp)⟩
      case round =>
        obtain ⟨k, cur, qa, qc, P, ra, rn, rc, Lo, hk, rfl, rfl, rfl, hrc, gr, hq, hP, hO, hlo, HPL, HT⟩ := hrel
        have m0 := (gr.cell (lt_cell e0)).trans e0
        have m1 := (gr.cell (lt_cell e1)).trans e1
        by_cases hlt : k < mn
        · obtain ⟨md, rfl, hmb, hmc⟩ := (hm3.gr gr).at hlt
          have hdr : Hid (ms.drop k = (ms[k]?.getD 0) :: ms.drop (k + 1)) := Lib.hid (drop_at (by rw [HML.out]; exact hlt))
          have wr_out := hO
          generalize hmi : ms[k]?.getD 0 = mi at *
          clear hmi
          cases P with
          | nil =>
            have hr0 : rn = 0 := by have := hP.len; simpa using this.symm
            subst hr0
            have HN : Hid ((Lo ++ [cur]) ++ intr f.times cur [] (ms.drop (k + 1)) = intr f.times xs L ms) := Lib.hid (by
              have := HT.out; rw [hdr.out] at this; simpa [intr] using this)
            go_wp2_with fail
            refine (wpIn_wide (n := 0)).1 ?_
            refine region_inv (F := Fence.wide) (by kernel_rfl) (by rfl) (by decide) (fun _ => trivial)
              (fun done' u W' => Kn [some (.slice ra 0 rc), some (.int .i64 0), some (.bool false), some (.bool false), none, none, none, none, none, none, none, none, some (.bool false)] done' u ∧ Gr wr W')
              (fun u => ⟨Kn.start _ _, Gr.drew wr⟩) ⟨?_, ?_, ?_, ?_, ?_, ?_, ?_, ?_, ?_, ?_, ?_, ?_, ?_, trivial⟩ ?_
            · rintro u done' W' hd hanc hclo ⟨hk, hg⟩
              refine op_plain (ro := none) rfl (fun c h => by cases h) fun K hK => ?_
              simp only [fillL, List.setIfInBounds_toArray, List.set_cons_zero, List.set_cons_succ, Nat.zero_add, Nat.reduceAdd] at hK ⊢
              go_simp
              exact hK _ _ ⟨hk.new rfl, hg⟩
            · rintro u done' W' hd hanc hclo ⟨hk, hg⟩
              have e0 := hk.get 0 rfl (hanc 0 (mem_of (by kernel_rfl)))
              refine op_plain (ro := none) rfl (fun c h => by cases h) fun K hK => ?_
              simp only [fillL, List.setIfInBounds_toArray, List.set_cons_zero, List.set_cons_succ, Nat.zero_add, Nat.reduceAdd, e0] at hK ⊢
              go_simp
              exact hK _ _ ⟨hk.new rfl, hg⟩
            · rintro u done' W' hd hanc hclo ⟨hk, hg⟩
              have e1 := hk.get 1 rfl (hanc 1 (mem_of (by kernel_rfl)))
              refine op_plain (ro := none) rfl (fun c h => by cases h) fun K hK => ?_
              simp only [fillL, List.setIfInBounds_toArray, List.set_cons_zero, List.set_cons_succ, Nat.zero_add, Nat.reduceAdd, e1] at hK ⊢
              go_simp
              exact hK _ _ ⟨hk.new rfl, hg⟩
            · rintro u done' W' hd hanc hclo ⟨hk, hg⟩
              have e2 := hk.get 2 rfl (hanc 2 (mem_of (by kernel_rfl)))
              refine op_plain (ro := none) rfl (fun c h => by cases h) fun K hK => ?_
              simp only [fillL, List.setIfInBounds_toArray, List.set_cons_zero, List.set_cons_succ, Nat.zero_add, Nat.reduceAdd, e2] at hK ⊢
              go_simp
              exact hK _ _ ⟨hk.new rfl, hg⟩
            · intro u done' W' hd hanc hclo hR
              have e3 := hR.1.get 3 rfl (hanc 3 (mem_of (by kernel_rfl)))
              with_reducible refine op_skip 3 true e3 rfl ?_ ?_ rfl ?_
              · decide
              · rfl
              · obtain ⟨hk, hg⟩ := hR
                exact ⟨hk.skip rfl, hg⟩
            · intro u done' W' hd hanc hclo hR
              have e3 := hR.1.get 3 rfl (hanc 3 (mem_of (by kernel_rfl)))
              with_reducible refine op_skip 3 true e3 rfl ?_ ?_ rfl ?_
              · decide
              · rfl
              · obtain ⟨hk, hg⟩ := hR
                exact ⟨hk.skip rfl, hg⟩
            · intro u done' W' hd hanc hclo hR
              have e3 := hR.1.get 3 rfl (hanc 3 (mem_of (by kernel_rfl)))
              with_reducible refine op_skip 3 true e3 rfl ?_ ?_ rfl ?_
              · decide
              · rfl
              · obtain ⟨hk, hg⟩ := hR
                exact ⟨hk.skip rfl, hg⟩
            · intro u done' W' hd hanc hclo hR
              have e3 := hR.1.get 3 rfl (hanc 3 (mem_of (by kernel_rfl)))
              with_reducible refine op_skip 3 true e3 rfl ?_ ?_ rfl ?_
              · decide
              · rfl
              · obtain ⟨hk, hg⟩ := hR
                exact ⟨hk.skip rfl, hg⟩
            · intro u done' W' hd hanc hclo hR
              have e3 := hR.1.get 3 rfl (hanc 3 (mem_of (by kernel_rfl)))
              with_reducible refine op_skip 3 true e3 rfl ?_ ?_ rfl ?_
              · decide
              · rfl
              · obtain ⟨hk, hg⟩ := hR
                exact ⟨hk.skip rfl, hg⟩
            · intro u done' W' hd hanc hclo hR
              have e3 := hR.1.get 3 rfl (hanc 3 (mem_of (by kernel_rfl)))
              with_reducible refine op_skip 3 true e3 rfl ?_ ?_ rfl ?_
              · decide
              · rfl
              · obtain ⟨hk, hg⟩ := hR
                exact ⟨hk.skip rfl, hg⟩
            · intro u done' W' hd hanc hclo hR
              have e3 := hR.1.get 3 rfl (hanc 3 (mem_of (by kernel_rfl)))
              with_reducible refine op_skip 3 true e3 rfl ?_ ?_ rfl ?_
              · decide
              · rfl
              · obtain ⟨hk, hg⟩ := hR
                exact ⟨hk.skip rfl, hg⟩
            · intro u done' W' hd hanc hclo hR
              have e3 := hR.1.get 3 rfl (hanc 3 (mem_of (by kernel_rfl)))
              with_reducible refine op_skip 3 true e3 rfl ?_ ?_ rfl ?_
              · decide
              · rfl
              · obtain ⟨hk, hg⟩ := hR
                exact ⟨hk.skip rfl, hg⟩
            · rintro u done' W' hd hanc hclo ⟨hk, hg⟩
              have e3 := hk.get 3 rfl (hanc 3 (mem_of (by kernel_rfl)))
              refine op_plain (ro := none) rfl (fun c h => by cases h) fun K hK => ?_
              simp only [fillL, List.setIfInBounds_toArray, List.set_cons_zero, List.set_cons_succ, Nat.zero_add, Nat.reduceAdd, e3] at hK ⊢
              go_simp
              exact hK _ _ ⟨hk.new rfl, hg⟩
            · rintro u W' ⟨done', hdn, hk, hg⟩
              have e12 := hk.get 12 rfl (hdn 12 (by decide))
              have W'_out := wr_out.gr hg
              clear hk hdn
              simp only [fillL, List.setIfInBounds_toArray, List.set_cons_zero, List.set_cons_succ, Nat.zero_add, Nat.reduceAdd, e12]
              obtain ⟨ad, rfl, _, _⟩ := (hq.gr (gr.trans hg)).at hn1
              have HCN := Lib.hid (clone_any (some ad) n qc cur W' (hq.gr (gr.trans hg)) hn1 (by omega))
              have hlc := (hq.gr (gr.trans hg)).len
              go_wp2_with fail
              refine HCN.out.mono ?_
              rintro e w9 ⟨g9, gc, rfl, hge9, hgi, hg9, hg3⟩
              rw [hlc] at hgi ⊢
              have G9 := (gr.trans hg).trans hg9
              have hO9 := (W'_out).gr (hg9.allocR (.cells #[.slice (some ⟨g9, 0, none⟩) n gc] 26))
              have hy9 := hgi.gr (Gr.alloc w9 (.cells #[.slice (some ⟨g9, 0, none⟩) n gc] 26))
              have h39 := hg3.gr (Gr.alloc w9 (.cells #[.slice (some ⟨g9, 0, none⟩) n gc] 26))
              have G10 := G9.allocR (.cells #[.slice (some ⟨g9, 0, none⟩) n gc] 26)
              have hg10 := heap_alloc_new w9 (.cells #[.slice (some ⟨g9, 0, none⟩) n gc] 26)
              clear HCN hgi hg3 hg9
              go_wp2_with (at_builtin; refine wpList_push rfl rfl rfl rfl hg10 hO9 G10 hy9 h39 (by omega) ?_; intro v' w11 hO11 G11 _)
              clear hO9 hy9 h39 G10 hg10
              go_wp2_with fail
              go_roundw
              case rel => exact ⟨k + 1, cur, some ad, qc, [], ra, 0, rc, Lo ++ [cur], by omega, by go_num, rfl, rfl, hrc, G11, hq, hP, hO11, by simp [hlo], HPL, HN⟩
              case measure => simp [intOf]; omega
          | cons s P =>
            obtain ⟨rn, rfl⟩ : ∃ m, rn = m + 1 := ⟨P.length, by have := hP.len; simpa using this.symm⟩
            obtain ⟨pd, ya, yn, yc, rfl, hpb, hpcell, hyi⟩ := hP.at (j := 0) (by omega)
            have hst := HPL.out.step
            have hyn : yn = n := by rw [← hyi.len]; simp; rw [hst.2.len, ← HPL.out.a.len, hq.len]
            subst hyn
            obtain ⟨n, hnn⟩ : ∃ n, n = yn := ⟨_, rfl⟩
            subst hnn
            have hyi : Ints w3 ya n s := by simpa using hyi
            have hadd0 : pd.add 0 = pd := by unfold Addr.add; rfl
            rw [hadd0] at hpcell
            have pcell := (gr.cell (lt_cell hpcell)).trans hpcell
            obtain ⟨ra2, hra2, hP2⟩ : ∃ ra2, (if rc = 1 then some pd else some ⟨pd.block, pd.off + 1, none⟩) = ra2 ∧ RowsAt w3 ra2 rn P := by
              refine ⟨_, rfl, ?_⟩
              split
              · obtain rfl : rn = 0 := by omega
                have hPl := hP.len
                obtain rfl : P = [] := List.eq_nil_of_length_eq_zero (by simpa using hPl)
                exact ⟨rfl, by omega, fun j hj => by omega⟩
              · have hp1 : pd.add 1 = ⟨pd.block, pd.off + 1, none⟩ := by unfold Addr.add; rfl
                rw [← hp1]; exact hP.tail1
            have HDU : Hid (∀ W, Gr wr W → Calls Try.prog 58 #[.agg #[.slice ta tn tc, .slice ca cn cc], .slice qa n qc, .slice ya n yc] W fun e w' => e = .returned (.int .i64 (dur f.times cur s)) ∧ Gr W w') := Lib.hid (fun W g => duration_any ta ca qa ya tn tc cn cc n qc yc f cur s W (hf3.gr (gr.trans g)) HPL.out.ok (hq.gr (gr.trans g)) (hyi.gr (gr.trans g)) (fun c hc => (HPL.out.a.ver c hc).1) hst.2 (fun c hc => aboveV_le (stepsB_true hst.1).1 c (by rw [hst.2.len]; exact hc)))
            obtain ⟨tb, htb, HTB⟩ : ∃ tb, decide (dur f.times cur s ≤ mi) = tb ∧ Hid (tb = decide (dur f.times cur s ≤ mi)) := ⟨_, rfl, Lib.hid rfl⟩
            have HTL := Lib.hid HPL.out.tail
            clear hpb hpcell hst
            go_wp2_with fail
            refine (wpIn_wide (n := 0)).1 ?_
            refine region_inv (F := Fence.wide) (by kernel_rfl) (by rfl) (by decide) (fun _ => trivial)
              (fun done' u W' => Kn [some (.slice (some pd) (rn + 1) rc), some (.int .i64 ((rn + 1 : Nat) : Int)), some (.bool true), some (.bool true), some (.agg #[.slice ta tn tc, .slice ca cn cc]), some (.slice qa n qc), some (.slice (some pd) (rn + 1) rc), some (.pointer (some pd)), some (.slice ya n yc), some (.int .i64 (dur f.times cur s)), some (.int .i64 mi), some (.bool tb), some (.bool tb)] done' u ∧ Gr wr W')
              (fun u => ⟨Kn.start _ _, Gr.drew wr⟩) ⟨?_, ?_, ?_, ?_, ?_, ?_, ?_, ?_, ?_, ?_, ?_, ?_, ?_, trivial⟩ ?_
            · rintro u done' W' hd hanc hclo ⟨hk, hg⟩
              refine op_plain (ro := none) rfl (fun c h => by cases h) fun K hK => ?_
              simp only [fillL, List.setIfInBounds_toArray, List.set_cons_zero, List.set_cons_succ, Nat.zero_add, Nat.reduceAdd] at hK ⊢
              go_simp
              exact hK _ _ ⟨hk.new rfl, hg⟩
            · rintro u done' W' hd hanc hclo ⟨hk, hg⟩
              have e0 := hk.get 0 rfl (hanc 0 (mem_of (by kernel_rfl)))
              refine op_plain (ro := none) rfl (fun c h => by cases h) fun K hK => ?_
              simp only [fillL, List.setIfInBounds_toArray, List.set_cons_zero, List.set_cons_succ, Nat.zero_add, Nat.reduceAdd, e0] at hK ⊢
              go_simp
              exact hK _ _ ⟨hk.new rfl, hg⟩
            · rintro u done' W' hd hanc hclo ⟨hk, hg⟩
              have e1 := hk.get 1 rfl (hanc 1 (mem_of (by kernel_rfl)))
              refine op_plain (ro := none) rfl (fun c h => by cases h) fun K hK => ?_
              simp only [fillL, List.setIfInBounds_toArray, List.set_cons_zero, List.set_cons_succ, Nat.zero_add, Nat.reduceAdd, e1] at hK ⊢
              go_simp
              exact hK _ _ ⟨hk.new rfl, hg⟩
            · rintro u done' W' hd hanc hclo ⟨hk, hg⟩
              have e2 := hk.get 2 rfl (hanc 2 (mem_of (by kernel_rfl)))
              refine op_plain (ro := none) rfl (fun c h => by cases h) fun K hK => ?_
              simp only [fillL, List.setIfInBounds_toArray, List.set_cons_zero, List.set_cons_succ, Nat.zero_add, Nat.reduceAdd, e2] at hK ⊢
              go_simp
              exact hK _ _ ⟨hk.new rfl, hg⟩
            · intro u done' W' hd hanc hclo hR
              have hk := hR.1
              have e3 := hk.get 3 rfl (hanc 3 (mem_of (by kernel_rfl)))
              with_reducible refine op_meetIn 3 true e3 ?_ ?_ ?_ ?_
              · decide
              · rfl
              · rfl
              refine op_in (ro := none) ?_ ?_
              · intro c h; cases h
              intro K hK
              have hg := hR.2
              have c_m0 := (hg.cell (lt_cell m0)).trans m0
              have c_m1 := (hg.cell (lt_cell m1)).trans m1
              simp only [fillL, List.setIfInBounds_toArray, List.set_cons_zero, List.set_cons_succ, Nat.zero_add, Nat.reduceAdd, e3] at hK ⊢
              go_simp
              exact hK _ _ ⟨hk.new rfl, hg⟩
            · intro u done' W' hd hanc hclo hR
              have hk := hR.1
              have e3 := hk.get 3 rfl (hanc 3 (mem_of (by kernel_rfl)))
              with_reducible refine op_meetIn 3 true e3 ?_ ?_ ?_ ?_
              · decide
              · rfl
              · rfl
              refine op_in (ro := none) ?_ ?_
              · intro c h; cases h
              intro K hK
              have hg := hR.2
              simp only [fillL, List.setIfInBounds_toArray, List.set_cons_zero, List.set_cons_succ, Nat.zero_add, Nat.reduceAdd, e3] at hK ⊢
              go_simp
              exact hK _ _ ⟨hk.new rfl, hg⟩
            · intro u done' W' hd hanc hclo hR
              have hk := hR.1
              have e3 := hk.get 3 rfl (hanc 3 (mem_of (by kernel_rfl)))
              with_reducible refine op_meetIn 3 true e3 ?_ ?_ ?_ ?_
              · decide
              · rfl
              · rfl
              refine op_in (ro := none) ?_ ?_
              · intro c h; cases h
              intro K hK
              have hg := hR.2
              simp only [fillL, List.setIfInBounds_toArray, List.set_cons_zero, List.set_cons_succ, Nat.zero_add, Nat.reduceAdd, e3] at hK ⊢
              go_simp
              exact hK _ _ ⟨hk.new rfl, hg⟩
            · intro u done' W' hd hanc hclo hR
              have hk := hR.1
              have e3 := hk.get 3 rfl (hanc 3 (mem_of (by kernel_rfl)))
              have e6 := hk.get 6 rfl (hanc 6 (mem_of (by kernel_rfl)))
              with_reducible refine op_meetIn 3 true e3 ?_ ?_ ?_ ?_
              · decide
              · rfl
              · rfl
              refine op_in (ro := none) ?_ ?_
              · intro c h; cases h
              intro K hK
              have hg := hR.2
              simp only [fillL, List.setIfInBounds_toArray, List.set_cons_zero, List.set_cons_succ, Nat.zero_add, Nat.reduceAdd, e3, e6] at hK ⊢
              go_simp
              exact hK _ _ ⟨hk.new rfl, hg⟩
            · intro u done' W' hd hanc hclo hR
              have hk := hR.1
              have e3 := hk.get 3 rfl (hanc 3 (mem_of (by kernel_rfl)))
              have e7 := hk.get 7 rfl (hanc 7 (mem_of (by kernel_rfl)))
              with_reducible refine op_meetIn 3 true e3 ?_ ?_ ?_ ?_
              · decide
              · rfl
              · rfl
              refine op_in (ro := none) ?_ ?_
              · intro c h; cases h
              intro K hK
              have hg := hR.2
              have c_pcell := (hg.cell (lt_cell pcell)).trans pcell
              simp only [fillL, List.setIfInBounds_toArray, List.set_cons_zero, List.set_cons_succ, Nat.zero_add, Nat.reduceAdd, e3, e7] at hK ⊢
              go_simp
              exact hK _ _ ⟨hk.new rfl, hg⟩
            · intro u done' W' hd hanc hclo hR
              have hk := hR.1
              have e3 := hk.get 3 rfl (hanc 3 (mem_of (by kernel_rfl)))
              have e4 := hk.get 4 rfl (hanc 4 (mem_of (by kernel_rfl)))
              have e5 := hk.get 5 rfl (hanc 5 (mem_of (by kernel_rfl)))
              have e8 := hk.get 8 rfl (hanc 8 (mem_of (by kernel_rfl)))
              with_reducible refine op_meetIn 3 true e3 ?_ ?_ ?_ ?_
              · decide
              · rfl
              · rfl
              refine op_in (ro := none) ?_ ?_
              · intro c h; cases h
              intro K hK
              have hg := hR.2
              have HCON := Lib.hid (HDU.out W' hg)
              simp only [fillL, List.setIfInBounds_toArray, List.set_cons_zero, List.set_cons_succ, Nat.zero_add, Nat.reduceAdd, e3, e4, e5, e8] at hK ⊢
              go_simp
              refine HCON.out.mono ?_
              rintro e w7 ⟨rfl, hg6⟩
              exact hK _ _ ⟨hk.new rfl, hg.trans hg6⟩
            · intro u done' W' hd hanc hclo hR
              have hk := hR.1
              have e3 := hk.get 3 rfl (hanc 3 (mem_of (by kernel_rfl)))
              with_reducible refine op_meetIn 3 true e3 ?_ ?_ ?_ ?_
              · decide
              · rfl
              · rfl
              refine op_in (ro := none) ?_ ?_
              · intro c h; cases h
              intro K hK
              have hg := hR.2
              simp only [fillL, List.setIfInBounds_toArray, List.set_cons_zero, List.set_cons_succ, Nat.zero_add, Nat.reduceAdd, e3] at hK ⊢
              go_simp
              exact hK _ _ ⟨hk.new rfl, hg⟩
            · intro u done' W' hd hanc hclo hR
              have hk := hR.1
              have e3 := hk.get 3 rfl (hanc 3 (mem_of (by kernel_rfl)))
              have e9 := hk.get 9 rfl (hanc 9 (mem_of (by kernel_rfl)))
              have e10 := hk.get 10 rfl (hanc 10 (mem_of (by kernel_rfl)))
              with_reducible refine op_meetIn 3 true e3 ?_ ?_ ?_ ?_
              · decide
              · rfl
              · rfl
              refine op_in (ro := none) ?_ ?_
              · intro c h; cases h
              intro K hK
              have hg := hR.2
              simp only [fillL, List.setIfInBounds_toArray, List.set_cons_zero, List.set_cons_succ, Nat.zero_add, Nat.reduceAdd, e3, e9, e10] at hK ⊢
              go_simp
              try rw [htb]
              exact hK _ _ ⟨hk.new rfl, hg⟩
            · rintro u done' W' hd hanc hclo ⟨hk, hg⟩
              have e3 := hk.get 3 rfl (hanc 3 (mem_of (by kernel_rfl)))
              have e11 := hk.get 11 rfl (hanc 11 (mem_of (by kernel_rfl)))
              refine op_plain (ro := none) rfl (fun c h => by cases h) fun K hK => ?_
              simp only [fillL, List.setIfInBounds_toArray, List.set_cons_zero, List.set_cons_succ, Nat.zero_add, Nat.reduceAdd, e3, e11] at hK ⊢
              go_simp
              exact hK _ _ ⟨hk.new rfl, hg⟩
            · rintro u W' ⟨done', hdn, hk, hg⟩
              have e12 := hk.get 12 rfl (hdn 12 (by decide))
              have W'_out := wr_out.gr hg
              clear hk hdn
              simp only [fillL, List.setIfInBounds_toArray, List.set_cons_zero, List.set_cons_succ, Nat.zero_add, Nat.reduceAdd, e12]
              have G7 := gr.trans hg
              have pcell := (hg.cell (lt_cell pcell)).trans pcell
              obtain ⟨w7, hw7⟩ : ∃ w7, w7 = W' := ⟨_, rfl⟩
              subst hw7
              have w7_out := W'_out
              clear hg m0 m1
              cases tb with
              | true =>
                have hle : dur f.times cur s ≤ mi := by simpa using HTB.out
                have HN : Hid ((Lo ++ [s]) ++ intr f.times s P (ms.drop (k + 1)) = intr f.times xs L ms) := Lib.hid (by
                  have := HT.out; rw [hdr.out] at this; simpa [intr, hle] using this)
                clear hle htb
                go_wp2_with fail
                go_region
                have hg := Gr.drew w7
                try simp only [hra2]
                obtain ⟨w8, hw8⟩ : ∃ w8, w7.drew = w8 := ⟨_, rfl⟩
                rw [hw8] at hg ⊢
                clear hw8
                have w8_out := w7_out.gr hg
                obtain ⟨ad, rfl, _, _⟩ := (hyi.gr (G7.trans hg)).at hn1
                have HCN := Lib.hid (clone_any (some ad) n yc s w8 (hyi.gr (G7.trans hg)) hn1 (by omega))
                have hlc := (hyi.gr (G7.trans hg)).len
                go_wp2_with fail
                refine HCN.out.mono ?_
                rintro e w9 ⟨g9, gc, rfl, hge9, hgi, hg9, hg3⟩
                rw [hlc] at hgi ⊢
                have G9 := (G7.trans hg).trans hg9
                have hO9 := (w8_out).gr (hg9.allocR (.cells #[.slice (some ⟨g9, 0, none⟩) n gc] 26))
                have hy9 := hgi.gr (Gr.alloc w9 (.cells #[.slice (some ⟨g9, 0, none⟩) n gc] 26))
                have h39 := hg3.gr (Gr.alloc w9 (.cells #[.slice (some ⟨g9, 0, none⟩) n gc] 26))
                have G10 := G9.allocR (.cells #[.slice (some ⟨g9, 0, none⟩) n gc] 26)
                have hg10 := heap_alloc_new w9 (.cells #[.slice (some ⟨g9, 0, none⟩) n gc] 26)
                clear HCN hgi hg3 hg9
                go_wp2_with (at_builtin; refine wpList_push rfl rfl rfl rfl hg10 hO9 G10 hy9 h39 (by omega) ?_; intro v' w11 hO11 G11 _)
                clear hO9 hy9 h39 G10 hg10
                go_wp2_with fail
                go_roundw
                case rel => exact ⟨k + 1, s, some ad, yc, P, ra2, rn, rc - 1, Lo ++ [s], by omega, by go_num, rfl, rfl, by omega, G11, hyi, hP2, hO11, by simp [hlo], HTL, HN⟩
                case measure => simp [intOf]; omega
              | false =>
                have hle : ¬ dur f.times cur s ≤ mi := by simpa using HTB.out
                have HN : Hid ((Lo ++ [cur]) ++ intr f.times cur (s :: P) (ms.drop (k + 1)) = intr f.times xs L ms) := Lib.hid (by
                  have := HT.out; rw [hdr.out] at this; simpa [intr, hle] using this)
                clear hle htb
                obtain ⟨ad, rfl, _, _⟩ := (hq.gr G7).at hn1
                have HCN := Lib.hid (clone_any (some ad) n qc cur w7 (hq.gr G7) hn1 (by omega))
                have hlc := (hq.gr G7).len
                go_wp2_with fail
                refine HCN.out.mono ?_
                rintro e w9 ⟨g9, gc, rfl, hge9, hgi, hg9, hg3⟩
                rw [hlc] at hgi ⊢
                have G9 := (G7).trans hg9
                have hO9 := (w7_out).gr (hg9.allocR (.cells #[.slice (some ⟨g9, 0, none⟩) n gc] 26))
                have hy9 := hgi.gr (Gr.alloc w9 (.cells #[.slice (some ⟨g9, 0, none⟩) n gc] 26))
                have h39 := hg3.gr (Gr.alloc w9 (.cells #[.slice (some ⟨g9, 0, none⟩) n gc] 26))
                have G10 := G9.allocR (.cells #[.slice (some ⟨g9, 0, none⟩) n gc] 26)
                have hg10 := heap_alloc_new w9 (.cells #[.slice (some ⟨g9, 0, none⟩) n gc] 26)
                clear HCN hgi hg3 hg9
                go_wp2_with (at_builtin; refine wpList_push rfl rfl rfl rfl hg10 hO9 G10 hy9 h39 (by omega) ?_; intro v' w11 hO11 G11 _)
                clear hO9 hy9 h39 G10 hg10
                go_wp2_with fail
                go_roundw
                case rel => exact ⟨k + 1, cur, some ad, qc, s :: P, some pd, rn + 1, rc, Lo ++ [cur], by omega, by go_num, rfl, rfl, hrc, G11, hq, hP, hO11, by simp [hlo], HPL, HN⟩
                case measure => simp [intOf]; omega
        · obtain rfl : k = mn := by omega
          have HF : Hid (Lo = intV f xs L bu ms) := Lib.hid (by
            have := HT.out; rw [List.drop_eq_nil_of_le (by rw [HML.out]; exact Nat.le_refl _)] at this
            rw [HP.out.2, ← this]; cases P <;> simp [intr])
          go_wp2_with fail
          go_ret2
          rw [← HF.out, HP.out.1]
          exact hO.post (G3.trans gr) (by omega)
  · have heb : ((cpR f xs L bu).2 != 0) = true := by simp [he]
    have HP : Hid (intE f xs L bu ms = (cpR f xs L bu).2 ∧ intV f xs L bu ms = []) := Lib.hid (by
      have : intE f xs L bu ms = (cpR f xs L bu).2 := by unfold intE; rw [if_neg he]
      exact ⟨this, by unfold intV; rw [this, if_neg he]⟩)
    clear he
    go_enter Try.func30, Try.ntmps30
    go_wp2_with fail
    refine HC.out.mono ?_
    rintro e w3 ⟨rfl, g3⟩
    go_wp2_with fail
    go_ret2
    exact ⟨none, 0, 0, by rw [HP.out.1]; rfl, by rw [HP.out.2]; exact RowsAt.nil _, g1.trans g3, Nat.le_refl _⟩
end
section
open Go.RowKit

theorem drop_atL {L : List (List Int)} {k : Nat} (h : k < L.length) : L.drop k = (L[k]?.getD []) :: L.drop (k + 1) := by
  rw [List.drop_eq_getElem_cons h]; simp [h]

set_option maxRecDepth 100000 in
set_option maxHeartbeats 4000000 in
theorem interrupt2_any (ta ca a pa ma : Option Addr) (tn tc cn cc n c pn pc mn mc : Nat) (f : Fl) (xs ms : List Int) (L : List (List Int)) (bu : Int) (w : World) (hf : FlAt w ta tn ca cn f) (hx : Ints w a n xs) (hL : RowsAt w pa pn L) (hm : Ints w ma mn ms) :
    Calls Try.prog 31 #[.agg #[.slice ta tn tc, .slice ca cn cc], .slice a n c, .slice pa pn pc, .int .i64 bu, .slice ma mn mc] w (PlanPost w (intV f xs L bu ms) (intE f xs L bu ms)) := by
  have g1 := Gr.alloc w (.cells #[.slice ta tn tc, .slice ca cn cc] 25)
  have c0 := cell_new (w := w) (t := 25) (cs := #[.slice ta tn tc, .slice ca cn cc]) (j := 0) rfl
  have c1 := cell_new (w := w) (t := 25) (cs := #[.slice ta tn tc, .slice ca cn cc]) (j := 1) rfl
  obtain ⟨w1, hw1⟩ : ∃ w1, w.alloc (.cells #[.slice ta tn tc, .slice ca cn cc] 25) = w1 := ⟨_, rfl⟩
  rw [hw1] at g1 c0 c1
  have HC := Lib.hid (checkPlan2_any ta ca a pa tn tc cn cc n c pn pc f xs L bu w1 (hf.gr g1) (hx.gr g1) (hL.gr g1))
  have hml := hm.lt
  have hpl0 := hL.lt
  by_cases he : (cpR f xs L bu).2 = 0
  · have heb : ((cpR f xs L bu).2 != 0) = false := by simp [he]
    have HE : Hid (intE f xs L bu ms = (if 64 < ms.length then 1 else if ms.any (fun n => decide (n < 0)) then 1 else 0)) := Lib.hid (by unfold intE; rw [if_pos he])
    have hpl := cpR_pl he
    have HPL := Lib.hid hpl
    have hn1 : 0 < n := by have := hpl.ok.n1; have := hpl.a.len; have := hx.len; omega
    have hn6 : n ≤ 6 := by have := hpl.ok.n6; have := hpl.a.len; have := hx.len; omega
    clear hpl
    clear he
    by_cases h64 : 64 < mn
    · have HP : Hid (intE f xs L bu ms = 1 ∧ intV f xs L bu ms = []) := Lib.hid (by
        have : intE f xs L bu ms = 1 := by rw [HE.out, hm.len, if_pos h64]
        exact ⟨this, by unfold intV; rw [this]; rfl⟩)
      have h64' : (64 : Int) < mn := by omega
      go_enter Try.func31, Try.ntmps31
      go_wp2_with fail
      refine HC.out.mono ?_
      rintro e w3 ⟨rfl, g3⟩
      go_wp2_with fail
      go_ret2
      exact ⟨none, 0, 0, by rw [HP.out.1]; rfl, by rw [HP.out.2]; exact RowsAt.nil _, g1.trans g3, Nat.le_refl _⟩
    have h64' : ¬ (64 : Int) < mn := by omega
    go_enter Try.func31, Try.ntmps31
    go_wp2_with fail
    refine HC.out.mono ?_
    rintro e w3 ⟨rfl, g3⟩
    have G3 := g1.trans g3
    have e0 := (g3.cell (lt_cell c0)).trans c0
    have e1 := (g3.cell (lt_cell c1)).trans c1
    clear hw1 c0 c1 HC g1 g3
    have hm3 := hm.gr G3
    have hf3 := hf.gr G3
    have hL3 := hL.gr G3
    have hx3 := hx.gr G3
    have HML := Lib.hid hm.len
    have HLL := Lib.hid hL.len
    go_wp2_with fail
    go_loop [14] (fun i => ∃ k : Nat, k ≤ mn ∧ i = .int .i64 k ∧ Hid (∀ j, j < k → decide (ms[j]?.getD 0 < 0) = false)) (fun i => mn - (intOf i).toNat)
    case atStart => exact ⟨0, Nat.zero_le _, rfl, Lib.hid (by intros; omega)⟩
    case round =>
      obtain ⟨k, hk, rfl, hall⟩ := hrel
      by_cases hlt : k < mn
      · obtain ⟨md, rfl, hmb, hmc⟩ := hm3.at hlt
        by_cases hng : ms[k]?.getD 0 < 0
        · have HP : Hid (intE f xs L bu ms = 1 ∧ intV f xs L bu ms = []) := Lib.hid (by
            have : intE f xs L bu ms = 1 := by rw [HE.out, hm.len, if_neg h64, any_hit (p := fun n => decide (n < 0)) (k := k) (by rw [HML.out]; exact hlt) (by simpa using hng)]; rfl
            exact ⟨this, by unfold intV; rw [this]; rfl⟩)
          go_wp2_with fail
          go_ret2
          exact ⟨none, 0, 0, by rw [HP.out.1]; rfl, by rw [HP.out.2]; exact RowsAt.nil _, G3, Nat.le_refl _⟩
        · go_wp2_with fail
          go_round
          case rel => exact ⟨k + 1, by omega, by go_num, Lib.hid (fun j hj => by
            by_cases e : j = k
            · subst e; simpa using hng
            · exact hall.out j (by omega))⟩
          case measure => simp [intOf]; omega
      · obtain rfl : k = mn := by omega
        have HP : Hid (intE f xs L bu ms = 0 ∧ intV f xs L bu ms = intr f.times xs L ms) := Lib.hid (by
          have : intE f xs L bu ms = 0 := by rw [HE.out, hm.len, if_neg h64, any_none (p := fun n => decide (n < 0)) (fun j hj => hall.out j (by rw [← HML.out]; exact hj))]; rfl
          exact ⟨this, by unfold intV; rw [this]; rfl⟩)
        clear hall HE
        go_wp2_with (at_builtin; refine wpList_copy rfl rfl rfl rfl hx3 hn1 (by omega) ?_; intro g4 c4 w4 hq4 h34 hge4 hg4)
        go_wp2_with fail
        go_loopw [15, 16, 17, 18] (fun o q d i wr => ∃ (t j : Nat) (cur : List Int) (qg qc : Nat) (Lo : List (List Int)), t ≤ k ∧ j ≤ pn ∧ i = .int .i64 t ∧ d = .int .i64 j ∧ q = .slice (some ⟨qg, 0, none⟩) n qc ∧ Gr w3 wr ∧ Ints wr (some ⟨qg, 0, none⟩) n cur ∧ Is3 wr qg ∧ OutR wr w3.heap.size o Lo ∧ Lo.length = t ∧ Hid (PlOk f bu cur (L.drop j)) ∧ Hid (Lo ++ intr f.times cur (L.drop j) (ms.drop t) = intr f.times xs L ms)) (fun _ _ _ i _ => k - (intOf i).toNat)
        case atStart => exact ⟨0, 0, xs, g4, c4, [], Nat.zero_le _, Nat.zero_le _, rfl, rfl, rfl, hg4, hq4, h34, OutR.nil _ _, rfl, HPL, Lib.hid (by simp)⟩
        case round =>
          obtain ⟨t, j, cur, qg, qc, Lo, ht, hj, rfl, rfl, rfl, gr, hq, h3q, hO, hlo, HPL, HT⟩ := hrel
          have m0 := (gr.cell (lt_cell e0)).trans e0
          have m1 := (gr.cell (lt_cell e1)).trans e1
          by_cases hlt2 : t < k
          · obtain ⟨md, rfl, hmb, hmc⟩ := (hm3.gr gr).at hlt2
            have hdr : Hid (ms.drop t = (ms[t]?.getD 0) :: ms.drop (t + 1)) := Lib.hid (drop_at (by rw [HML.out]; exact hlt2))
            generalize hmi : ms[t]?.getD 0 = mi at *
            clear hmi
            by_cases hjl : j < pn
            · obtain ⟨pd, ya, yn, yc, rfl, hpb, pcell, hyi⟩ := (hL3.gr gr).at hjl
              have hdl : Hid (L.drop j = (L[j]?.getD []) :: L.drop (j + 1)) := Lib.hid (drop_atL (by rw [HLL.out]; exact hjl))
              generalize L[j]?.getD [] = s at *
              rw [hdl.out] at HPL HT
              have hst := HPL.out.step
              have hyn : yn = n := by rw [← hyi.len, hst.2.len, ← HPL.out.a.len, hq.len]
              subst hyn
              obtain ⟨n, hnn⟩ : ∃ n, n = yn := ⟨_, rfl⟩
              subst hnn
              have hsd := stepV_dur HPL.out.ok HPL.out.a hst.2 hst.1
              have HDU : Hid (∀ W, Gr wr W → Calls Try.prog 70 #[.agg #[.slice ta tn tc, .slice ca cn cc], .slice (some ⟨qg, 0, none⟩) n qc, .slice ya n yc] W fun e w' => e = .returned (.int .i64 (dur f.times cur s)) ∧ Gr W w') := Lib.hid (fun W g => by
                have := step_any ta ca (some ⟨qg, 0, none⟩) ya tn tc cn cc n qc yc f cur s W (hf3.gr (gr.trans g)) HPL.out.ok (hq.gr g) (hyi.gr g) HPL.out.a hst.2
                rw [hsd] at this; exact this)
              obtain ⟨tb, htb, HTB⟩ : ∃ tb, decide (dur f.times cur s ≤ mi) = tb ∧ Hid (tb = decide (dur f.times cur s ≤ mi)) := ⟨_, rfl, Lib.hid rfl⟩
              have HTL := Lib.hid HPL.out.tail
              clear hpb hst hsd
              go_wp2_with fail
              refine (wpIn_wide (n := 0)).1 ?_
              refine region_inv (F := Fence.wide) (by kernel_rfl) (by rfl) (by decide) (fun _ => trivial)
                (fun done' u W' => Kn [some (.int .i64 j), some (.slice (some pd) pn pc), some (.int .i64 pn), some (.bool true), some (.bool true), some (.agg #[.slice ta tn tc, .slice ca cn cc]), some (.slice (some ⟨qg, 0, none⟩) n qc), some (.slice (some pd) pn pc), some (.int .i64 j), some (.pointer (some (pd.add j))), some (.slice ya n yc), some (.int .i64 (dur f.times cur s)), some (.slice (some md) k mc), some (.int .i64 t), some (.pointer (some (md.add t))), some (.int .i64 mi), some (.bool tb), some (.bool tb)] done' u ∧ Gr wr W')
                (fun u => ⟨Kn.start _ _, Gr.drew wr⟩) ⟨?_, ?_, ?_, ?_, ?_, ?_, ?_, ?_, ?_, ?_, ?_, ?_, ?_, ?_, ?_, ?_, ?_, ?_, trivial⟩ ?_
              · rintro u done' W' hd hanc hclo ⟨hk, hg⟩
                refine op_plain (ro := none) rfl (fun c h => by cases h) fun K hK => ?_
                simp only [fillL, List.setIfInBounds_toArray, List.set_cons_zero, List.set_cons_succ, Nat.zero_add, Nat.reduceAdd] at hK ⊢
                go_simp
                exact hK _ _ ⟨hk.new rfl, hg⟩
              · rintro u done' W' hd hanc hclo ⟨hk, hg⟩
                refine op_plain (ro := none) rfl (fun c h => by cases h) fun K hK => ?_
                simp only [fillL, List.setIfInBounds_toArray, List.set_cons_zero, List.set_cons_succ, Nat.zero_add, Nat.reduceAdd] at hK ⊢
                go_simp
                exact hK _ _ ⟨hk.new rfl, hg⟩
              · rintro u done' W' hd hanc hclo ⟨hk, hg⟩
                have e1 := hk.get 1 rfl (hanc 1 (mem_of (by kernel_rfl)))
                refine op_plain (ro := none) rfl (fun c h => by cases h) fun K hK => ?_
                simp only [fillL, List.setIfInBounds_toArray, List.set_cons_zero, List.set_cons_succ, Nat.zero_add, Nat.reduceAdd, e1] at hK ⊢
                go_simp
                exact hK _ _ ⟨hk.new rfl, hg⟩
              · rintro u done' W' hd hanc hclo ⟨hk, hg⟩
                have e0 := hk.get 0 rfl (hanc 0 (mem_of (by kernel_rfl)))
                have e2 := hk.get 2 rfl (hanc 2 (mem_of (by kernel_rfl)))
                refine op_plain (ro := none) rfl (fun c h => by cases h) fun K hK => ?_
                simp only [fillL, List.setIfInBounds_toArray, List.set_cons_zero, List.set_cons_succ, Nat.zero_add, Nat.reduceAdd, e0, e2] at hK ⊢
                go_simp
                exact hK _ _ ⟨hk.new rfl, hg⟩
              · rintro u done' W' hd hanc hclo ⟨hk, hg⟩
                have e3 := hk.get 3 rfl (hanc 3 (mem_of (by kernel_rfl)))
                refine op_plain (ro := none) rfl (fun c h => by cases h) fun K hK => ?_
                simp only [fillL, List.setIfInBounds_toArray, List.set_cons_zero, List.set_cons_succ, Nat.zero_add, Nat.reduceAdd, e3] at hK ⊢
                go_simp
                exact hK _ _ ⟨hk.new rfl, hg⟩
              · intro u done' W' hd hanc hclo hR
                have hk := hR.1
                have e4 := hk.get 4 rfl (hanc 4 (mem_of (by kernel_rfl)))
                with_reducible refine op_meetIn 4 true e4 ?_ ?_ ?_ ?_
                · decide
                · rfl
                · rfl
                refine op_in (ro := none) ?_ ?_
                · intro c h; cases h
                intro K hK
                have hg := hR.2
                have c_m0 := (hg.cell (lt_cell m0)).trans m0
                have c_m1 := (hg.cell (lt_cell m1)).trans m1
                simp only [fillL, List.setIfInBounds_toArray, List.set_cons_zero, List.set_cons_succ, Nat.zero_add, Nat.reduceAdd, e4] at hK ⊢
                go_simp
                exact hK _ _ ⟨hk.new rfl, hg⟩
              · intro u done' W' hd hanc hclo hR
                have hk := hR.1
                have e4 := hk.get 4 rfl (hanc 4 (mem_of (by kernel_rfl)))
                with_reducible refine op_meetIn 4 true e4 ?_ ?_ ?_ ?_
                · decide
                · rfl
                · rfl
                refine op_in (ro := none) ?_ ?_
                · intro c h; cases h
                intro K hK
                have hg := hR.2
                simp only [fillL, List.setIfInBounds_toArray, List.set_cons_zero, List.set_cons_succ, Nat.zero_add, Nat.reduceAdd, e4] at hK ⊢
                go_simp
                exact hK _ _ ⟨hk.new rfl, hg⟩
              · intro u done' W' hd hanc hclo hR
                have hk := hR.1
                have e4 := hk.get 4 rfl (hanc 4 (mem_of (by kernel_rfl)))
                with_reducible refine op_meetIn 4 true e4 ?_ ?_ ?_ ?_
                · decide
                · rfl
                · rfl
                refine op_in (ro := none) ?_ ?_
                · intro c h; cases h
                intro K hK
                have hg := hR.2
                simp only [fillL, List.setIfInBounds_toArray, List.set_cons_zero, List.set_cons_succ, Nat.zero_add, Nat.reduceAdd, e4] at hK ⊢
                go_simp
                exact hK _ _ ⟨hk.new rfl, hg⟩
              · intro u done' W' hd hanc hclo hR
                have hk := hR.1
                have e4 := hk.get 4 rfl (hanc 4 (mem_of (by kernel_rfl)))
                with_reducible refine op_meetIn 4 true e4 ?_ ?_ ?_ ?_
                · decide
                · rfl
                · rfl
                refine op_in (ro := none) ?_ ?_
                · intro c h; cases h
                intro K hK
                have hg := hR.2
                simp only [fillL, List.setIfInBounds_toArray, List.set_cons_zero, List.set_cons_succ, Nat.zero_add, Nat.reduceAdd, e4] at hK ⊢
                go_simp
                exact hK _ _ ⟨hk.new rfl, hg⟩
              · intro u done' W' hd hanc hclo hR
                have hk := hR.1
                have e4 := hk.get 4 rfl (hanc 4 (mem_of (by kernel_rfl)))
                have e7 := hk.get 7 rfl (hanc 7 (mem_of (by kernel_rfl)))
                have e8 := hk.get 8 rfl (hanc 8 (mem_of (by kernel_rfl)))
                with_reducible refine op_meetIn 4 true e4 ?_ ?_ ?_ ?_
                · decide
                · rfl
                · rfl
                refine op_in (ro := none) ?_ ?_
                · intro c h; cases h
                intro K hK
                have hg := hR.2
                simp only [fillL, List.setIfInBounds_toArray, List.set_cons_zero, List.set_cons_succ, Nat.zero_add, Nat.reduceAdd, e4, e7, e8] at hK ⊢
                go_simp
                exact hK _ _ ⟨hk.new rfl, hg⟩
              · intro u done' W' hd hanc hclo hR
                have hk := hR.1
                have e4 := hk.get 4 rfl (hanc 4 (mem_of (by kernel_rfl)))
                have e9 := hk.get 9 rfl (hanc 9 (mem_of (by kernel_rfl)))
                with_reducible refine op_meetIn 4 true e4 ?_ ?_ ?_ ?_
                · decide
                · rfl
                · rfl
                refine op_in (ro := none) ?_ ?_
                · intro c h; cases h
                intro K hK
                have hg := hR.2
                have c_pcell := (hg.cell (lt_cell pcell)).trans pcell
                simp only [fillL, List.setIfInBounds_toArray, List.set_cons_zero, List.set_cons_succ, Nat.zero_add, Nat.reduceAdd, e4, e9] at hK ⊢
                go_simp
                exact hK _ _ ⟨hk.new rfl, hg⟩
              · intro u done' W' hd hanc hclo hR
                have hk := hR.1
                have e4 := hk.get 4 rfl (hanc 4 (mem_of (by kernel_rfl)))
                have e5 := hk.get 5 rfl (hanc 5 (mem_of (by kernel_rfl)))
                have e6 := hk.get 6 rfl (hanc 6 (mem_of (by kernel_rfl)))
                have e10 := hk.get 10 rfl (hanc 10 (mem_of (by kernel_rfl)))
                with_reducible refine op_meetIn 4 true e4 ?_ ?_ ?_ ?_
                · decide
                · rfl
                · rfl
                refine op_in (ro := none) ?_ ?_
                · intro c h; cases h
                intro K hK
                have hg := hR.2
                have HCON := Lib.hid (HDU.out W' hg)
                simp only [fillL, List.setIfInBounds_toArray, List.set_cons_zero, List.set_cons_succ, Nat.zero_add, Nat.reduceAdd, e4, e5, e6, e10] at hK ⊢
                go_simp
                refine HCON.out.mono ?_
                rintro e w7 ⟨rfl, hg6⟩
                exact hK _ _ ⟨hk.new rfl, hg.trans hg6⟩
              · intro u done' W' hd hanc hclo hR
                have hk := hR.1
                have e4 := hk.get 4 rfl (hanc 4 (mem_of (by kernel_rfl)))
                with_reducible refine op_meetIn 4 true e4 ?_ ?_ ?_ ?_
                · decide
                · rfl
                · rfl
                refine op_in (ro := none) ?_ ?_
                · intro c h; cases h
                intro K hK
                have hg := hR.2
                simp only [fillL, List.setIfInBounds_toArray, List.set_cons_zero, List.set_cons_succ, Nat.zero_add, Nat.reduceAdd, e4] at hK ⊢
                go_simp
                exact hK _ _ ⟨hk.new rfl, hg⟩
              · intro u done' W' hd hanc hclo hR
                have hk := hR.1
                have e4 := hk.get 4 rfl (hanc 4 (mem_of (by kernel_rfl)))
                with_reducible refine op_meetIn 4 true e4 ?_ ?_ ?_ ?_
                · decide
                · rfl
                · rfl
                refine op_in (ro := none) ?_ ?_
                · intro c h; cases h
                intro K hK
                have hg := hR.2
                simp only [fillL, List.setIfInBounds_toArray, List.set_cons_zero, List.set_cons_succ, Nat.zero_add, Nat.reduceAdd, e4] at hK ⊢
                go_simp
                exact hK _ _ ⟨hk.new rfl, hg⟩
              · intro u done' W' hd hanc hclo hR
                have hk := hR.1
                have e4 := hk.get 4 rfl (hanc 4 (mem_of (by kernel_rfl)))
                have e12 := hk.get 12 rfl (hanc 12 (mem_of (by kernel_rfl)))
                have e13 := hk.get 13 rfl (hanc 13 (mem_of (by kernel_rfl)))
                with_reducible refine op_meetIn 4 true e4 ?_ ?_ ?_ ?_
                · decide
                · rfl
                · rfl
                refine op_in (ro := none) ?_ ?_
                · intro c h; cases h
                intro K hK
                have hg := hR.2
                simp only [fillL, List.setIfInBounds_toArray, List.set_cons_zero, List.set_cons_succ, Nat.zero_add, Nat.reduceAdd, e4, e12, e13] at hK ⊢
                go_simp
                exact hK _ _ ⟨hk.new rfl, hg⟩
              · intro u done' W' hd hanc hclo hR
                have hk := hR.1
                have e4 := hk.get 4 rfl (hanc 4 (mem_of (by kernel_rfl)))
                have e14 := hk.get 14 rfl (hanc 14 (mem_of (by kernel_rfl)))
                with_reducible refine op_meetIn 4 true e4 ?_ ?_ ?_ ?_
                · decide
                · rfl
                · rfl
                refine op_in (ro := none) ?_ ?_
                · intro c h; cases h
                intro K hK
                have hg := hR.2
                have c_hmc := (hg.cell (lt_cell hmc)).trans hmc
                simp only [fillL, List.setIfInBounds_toArray, List.set_cons_zero, List.set_cons_succ, Nat.zero_add, Nat.reduceAdd, e4, e14] at hK ⊢
                go_simp
                exact hK _ _ ⟨hk.new rfl, hg⟩
              · intro u done' W' hd hanc hclo hR
                have hk := hR.1
                have e4 := hk.get 4 rfl (hanc 4 (mem_of (by kernel_rfl)))
                have e11 := hk.get 11 rfl (hanc 11 (mem_of (by kernel_rfl)))
                have e15 := hk.get 15 rfl (hanc 15 (mem_of (by kernel_rfl)))
                with_reducible refine op_meetIn 4 true e4 ?_ ?_ ?_ ?_
                · decide
                · rfl
                · rfl
                refine op_in (ro := none) ?_ ?_
                · intro c h; cases h
                intro K hK
                have hg := hR.2
                simp only [fillL, List.setIfInBounds_toArray, List.set_cons_zero, List.set_cons_succ, Nat.zero_add, Nat.reduceAdd, e4, e11, e15] at hK ⊢
                go_simp
                try rw [htb]
                exact hK _ _ ⟨hk.new rfl, hg⟩
              · rintro u done' W' hd hanc hclo ⟨hk, hg⟩
                have e4 := hk.get 4 rfl (hanc 4 (mem_of (by kernel_rfl)))
                have e16 := hk.get 16 rfl (hanc 16 (mem_of (by kernel_rfl)))
                refine op_plain (ro := none) rfl (fun c h => by cases h) fun K hK => ?_
                simp only [fillL, List.setIfInBounds_toArray, List.set_cons_zero, List.set_cons_succ, Nat.zero_add, Nat.reduceAdd, e4, e16] at hK ⊢
                go_simp
                exact hK _ _ ⟨hk.new rfl, hg⟩
              · rintro u W' ⟨done', hdn, hk, hg⟩
                have e17 := hk.get 17 rfl (hdn 17 (by decide))
                simp only [fillL, List.setIfInBounds_toArray, List.set_cons_zero, List.set_cons_succ, Nat.zero_add, Nat.reduceAdd, e17]
                clear hk hdn
                have G7 := gr.trans hg
                have pc7 := (hg.cell (lt_cell pcell)).trans pcell
                have hy7 := hyi.gr hg
                have hq7 := hq.gr hg
                have h37 := h3q.gr hg
                have hO7 := hO.gr hg
                clear hg m0 m1 hq h3q hO pcell
                cases tb with
                | true =>
                  have hle : dur f.times cur s ≤ mi := by simpa using HTB.out
                  have HN : Hid ((Lo ++ [s]) ++ intr f.times s (L.drop (j + 1)) (ms.drop (t + 1)) = intr f.times xs L ms) := Lib.hid (by
                    have := HT.out; rw [hdr.out] at this; simpa [intr, hle] using this)
                  clear hle htb
                  go_wp2_with (first | (at_builtin; refine wpList_copy rfl rfl rfl rfl hy7 hn1 (by omega) ?_; intro g8 c8 w8 hq8 h38 hge8 hg8; have G8 := G7.trans hg8; have hO9 := hO7.gr (hg8.allocR (.cells #[.slice (some ⟨g8, 0, none⟩) n c8] 26)); have hy9 := hq8.gr (Gr.alloc w8 (.cells #[.slice (some ⟨g8, 0, none⟩) n c8] 26)); have h39 := h38.gr (Gr.alloc w8 (.cells #[.slice (some ⟨g8, 0, none⟩) n c8] 26)); have G10 := G8.allocR (.cells #[.slice (some ⟨g8, 0, none⟩) n c8] 26); have hg10 := heap_alloc_new w8 (.cells #[.slice (some ⟨g8, 0, none⟩) n c8] 26); clear hO7 hg8 hq7 h37 pc7 hq8 h38) | (at_builtin; refine wpList_push rfl rfl rfl rfl hg10 hO9 G10 hy9 h39 (by omega) ?_; intro v' w11 hO11 G11 HK11))
                  have hq11 := (HK11 _ _ _ hy9 h39).1
                  have h311 := (HK11 _ _ _ hy9 h39).2
                  clear hO9 hy9 h39 G10 hg10 HK11
                  go_wp2_with fail
                  go_roundw
                  case rel => exact ⟨t + 1, j + 1, s, g8, c8, Lo ++ [s], by omega, by omega, by go_num, by go_num, rfl, G11, hq11, h311, hO11, by simp [hlo], HTL, HN⟩
                  case measure => simp [intOf]; omega
                | false =>
                  have hle : ¬ dur f.times cur s ≤ mi := by simpa using HTB.out
                  have HN : Hid ((Lo ++ [cur]) ++ intr f.times cur (L.drop j) (ms.drop (t + 1)) = intr f.times xs L ms) := Lib.hid (by
                    have := HT.out; rw [hdr.out] at this; rw [hdl.out]; simpa [intr, hle] using this)
                  rw [← hdl.out] at HPL
                  clear hle htb
                  have hO9 := (hO7).gr (Gr.alloc W' (.cells #[.slice (some ⟨qg, 0, none⟩) n qc] 26))
                  have hy9 := (hq7).gr (Gr.alloc W' (.cells #[.slice (some ⟨qg, 0, none⟩) n qc] 26))
                  have h39 := (h37).gr (Gr.alloc W' (.cells #[.slice (some ⟨qg, 0, none⟩) n qc] 26))
                  have G10 := (G7).allocR (.cells #[.slice (some ⟨qg, 0, none⟩) n qc] 26)
                  have hg10 := heap_alloc_new W' (.cells #[.slice (some ⟨qg, 0, none⟩) n qc] 26)
                  go_wp2_with (at_builtin; refine wpList_push rfl rfl rfl rfl hg10 hO9 G10 hy9 h39 (by omega) ?_; intro v' w11 hO11 G11 HK11)
                  have hq11 := (HK11 _ _ _ hy9 h39).1
                  have h311 := (HK11 _ _ _ hy9 h39).2
                  clear hO9 hy9 h39 G10 hg10 HK11
                  go_wp2_with fail
                  go_roundw
                  case rel => exact ⟨t + 1, j, cur, qg, qc, Lo ++ [cur], by omega, by omega, by go_num, rfl, rfl, G11, hq11, h311, hO11, by simp [hlo], HPL, HN⟩
                  case measure => simp [intOf]; omega
            · obtain rfl : j = pn := by omega
              have hd0 : Hid (L.drop j = []) := Lib.hid (List.drop_eq_nil_of_le (by rw [HLL.out]; exact Nat.le_refl _))
              have HN : Hid ((Lo ++ [cur]) ++ intr f.times cur (L.drop j) (ms.drop (t + 1)) = intr f.times xs L ms) := Lib.hid (by
                have := HT.out; rw [hdr.out, hd0.out] at this; rw [hd0.out]; simpa [intr] using this)
              go_wp2_with fail
              refine (wpIn_wide (n := 0)).1 ?_
              refine region_inv (F := Fence.wide) (by kernel_rfl) (by rfl) (by decide) (fun _ => trivial)
                (fun done' u W' => Kn [some (.int .i64 j), some (.slice pa j pc), some (.int .i64 j), some (.bool false), some (.bool false), none, none, none, none, none, none, none, none, none, none, none, none, some (.bool false)] done' u ∧ Gr wr W')
                (fun u => ⟨Kn.start _ _, Gr.drew wr⟩) ⟨?_, ?_, ?_, ?_, ?_, ?_, ?_, ?_, ?_, ?_, ?_, ?_, ?_, ?_, ?_, ?_, ?_, ?_, trivial⟩ ?_
              · rintro u done' W' hd hanc hclo ⟨hk, hg⟩
                refine op_plain (ro := none) rfl (fun c h => by cases h) fun K hK => ?_
                simp only [fillL, List.setIfInBounds_toArray, List.set_cons_zero, List.set_cons_succ, Nat.zero_add, Nat.reduceAdd] at hK ⊢
                go_simp
                exact hK _ _ ⟨hk.new rfl, hg⟩
              · rintro u done' W' hd hanc hclo ⟨hk, hg⟩
                refine op_plain (ro := none) rfl (fun c h => by cases h) fun K hK => ?_
                simp only [fillL, List.setIfInBounds_toArray, List.set_cons_zero, List.set_cons_succ, Nat.zero_add, Nat.reduceAdd] at hK ⊢
                go_simp
                exact hK _ _ ⟨hk.new rfl, hg⟩
              · rintro u done' W' hd hanc hclo ⟨hk, hg⟩
                have e1 := hk.get 1 rfl (hanc 1 (mem_of (by kernel_rfl)))
                refine op_plain (ro := none) rfl (fun c h => by cases h) fun K hK => ?_
                simp only [fillL, List.setIfInBounds_toArray, List.set_cons_zero, List.set_cons_succ, Nat.zero_add, Nat.reduceAdd, e1] at hK ⊢
                go_simp
                exact hK _ _ ⟨hk.new rfl, hg⟩
              · rintro u done' W' hd hanc hclo ⟨hk, hg⟩
                have e0 := hk.get 0 rfl (hanc 0 (mem_of (by kernel_rfl)))
                have e2 := hk.get 2 rfl (hanc 2 (mem_of (by kernel_rfl)))
                refine op_plain (ro := none) rfl (fun c h => by cases h) fun K hK => ?_
                simp only [fillL, List.setIfInBounds_toArray, List.set_cons_zero, List.set_cons_succ, Nat.zero_add, Nat.reduceAdd, e0, e2] at hK ⊢
                go_simp
                exact hK _ _ ⟨hk.new rfl, hg⟩
              · rintro u done' W' hd hanc hclo ⟨hk, hg⟩
                have e3 := hk.get 3 rfl (hanc 3 (mem_of (by kernel_rfl)))
                refine op_plain (ro := none) rfl (fun c h => by cases h) fun K hK => ?_
                simp only [fillL, List.setIfInBounds_toArray, List.set_cons_zero, List.set_cons_succ, Nat.zero_add, Nat.reduceAdd, e3] at hK ⊢
                go_simp
                exact hK _ _ ⟨hk.new rfl, hg⟩
              · intro u done' W' hd hanc hclo hR
                have e4 := hR.1.get 4 rfl (hanc 4 (mem_of (by kernel_rfl)))
                with_reducible refine op_skip 4 true e4 rfl ?_ ?_ rfl ?_
                · decide
                · rfl
                · obtain ⟨hk, hg⟩ := hR
                  exact ⟨hk.skip rfl, hg⟩
              · intro u done' W' hd hanc hclo hR
                have e4 := hR.1.get 4 rfl (hanc 4 (mem_of (by kernel_rfl)))
                with_reducible refine op_skip 4 true e4 rfl ?_ ?_ rfl ?_
                · decide
                · rfl
                · obtain ⟨hk, hg⟩ := hR
                  exact ⟨hk.skip rfl, hg⟩
              · intro u done' W' hd hanc hclo hR
                have e4 := hR.1.get 4 rfl (hanc 4 (mem_of (by kernel_rfl)))
                with_reducible refine op_skip 4 true e4 rfl ?_ ?_ rfl ?_
                · decide
                · rfl
                · obtain ⟨hk, hg⟩ := hR
                  exact ⟨hk.skip rfl, hg⟩
              · intro u done' W' hd hanc hclo hR
                have e4 := hR.1.get 4 rfl (hanc 4 (mem_of (by kernel_rfl)))
                with_reducible refine op_skip 4 true e4 rfl ?_ ?_ rfl ?_
                · decide
                · rfl
                · obtain ⟨hk, hg⟩ := hR
                  exact ⟨hk.skip rfl, hg⟩
              · intro u done' W' hd hanc hclo hR
                have e4 := hR.1.get 4 rfl (hanc 4 (mem_of (by kernel_rfl)))
                with_reducible refine op_skip 4 true e4 rfl ?_ ?_ rfl ?_
                · decide
                · rfl
                · obtain ⟨hk, hg⟩ := hR
                  exact ⟨hk.skip rfl, hg⟩
              · intro u done' W' hd hanc hclo hR
                have e4 := hR.1.get 4 rfl (hanc 4 (mem_of (by kernel_rfl)))
                with_reducible refine op_skip 4 true e4 rfl ?_ ?_ rfl ?_
                · decide
                · rfl
                · obtain ⟨hk, hg⟩ := hR
                  exact ⟨hk.skip rfl, hg⟩
              · intro u done' W' hd hanc hclo hR
                have e4 := hR.1.get 4 rfl (hanc 4 (mem_of (by kernel_rfl)))
                with_reducible refine op_skip 4 true e4 rfl ?_ ?_ rfl ?_
                · decide
                · rfl
                · obtain ⟨hk, hg⟩ := hR
                  exact ⟨hk.skip rfl, hg⟩
              · intro u done' W' hd hanc hclo hR
                have e4 := hR.1.get 4 rfl (hanc 4 (mem_of (by kernel_rfl)))
                with_reducible refine op_skip 4 true e4 rfl ?_ ?_ rfl ?_
                · decide
                · rfl
                · obtain ⟨hk, hg⟩ := hR
                  exact ⟨hk.skip rfl, hg⟩
              · intro u done' W' hd hanc hclo hR
                have e4 := hR.1.get 4 rfl (hanc 4 (mem_of (by kernel_rfl)))
                with_reducible refine op_skip 4 true e4 rfl ?_ ?_ rfl ?_
                · decide
                · rfl
                · obtain ⟨hk, hg⟩ := hR
                  exact ⟨hk.skip rfl, hg⟩
              · intro u done' W' hd hanc hclo hR
                have e4 := hR.1.get 4 rfl (hanc 4 (mem_of (by kernel_rfl)))
                with_reducible refine op_skip 4 true e4 rfl ?_ ?_ rfl ?_
                · decide
                · rfl
                · obtain ⟨hk, hg⟩ := hR
                  exact ⟨hk.skip rfl, hg⟩
              · intro u done' W' hd hanc hclo hR
                have e4 := hR.1.get 4 rfl (hanc 4 (mem_of (by kernel_rfl)))
                with_reducible refine op_skip 4 true e4 rfl ?_ ?_ rfl ?_
                · decide
                · rfl
                · obtain ⟨hk, hg⟩ := hR
                  exact ⟨hk.skip rfl, hg⟩
              · intro u done' W' hd hanc hclo hR
                have e4 := hR.1.get 4 rfl (hanc 4 (mem_of (by kernel_rfl)))
                with_reducible refine op_skip 4 true e4 rfl ?_ ?_ rfl ?_
                · decide
                · rfl
                · obtain ⟨hk, hg⟩ := hR
                  exact ⟨hk.skip rfl, hg⟩
              · rintro u done' W' hd hanc hclo ⟨hk, hg⟩
                have e4 := hk.get 4 rfl (hanc 4 (mem_of (by kernel_rfl)))
                refine op_plain (ro := none) rfl (fun c h => by cases h) fun K hK => ?_
                simp only [fillL, List.setIfInBounds_toArray, List.set_cons_zero, List.set_cons_succ, Nat.zero_add, Nat.reduceAdd, e4] at hK ⊢
                go_simp
                exact hK _ _ ⟨hk.new rfl, hg⟩
              · rintro u W' ⟨done', hdn, hk, hg⟩
                have e17 := hk.get 17 rfl (hdn 17 (by decide))
                simp only [fillL, List.setIfInBounds_toArray, List.set_cons_zero, List.set_cons_succ, Nat.zero_add, Nat.reduceAdd, e17]
                clear hk hdn
                have G7 := gr.trans hg
                have hq7 := hq.gr hg
                have h37 := h3q.gr hg
                have hO7 := hO.gr hg
                clear hg m0 m1 hq h3q hO
                have hO9 := (hO7).gr (Gr.alloc W' (.cells #[.slice (some ⟨qg, 0, none⟩) n qc] 26))
                have hy9 := (hq7).gr (Gr.alloc W' (.cells #[.slice (some ⟨qg, 0, none⟩) n qc] 26))
                have h39 := (h37).gr (Gr.alloc W' (.cells #[.slice (some ⟨qg, 0, none⟩) n qc] 26))
                have G10 := (G7).allocR (.cells #[.slice (some ⟨qg, 0, none⟩) n qc] 26)
                have hg10 := heap_alloc_new W' (.cells #[.slice (some ⟨qg, 0, none⟩) n qc] 26)
                go_wp2_with (at_builtin; refine wpList_push rfl rfl rfl rfl hg10 hO9 G10 hy9 h39 (by omega) ?_; intro v' w11 hO11 G11 HK11)
                have hq11 := (HK11 _ _ _ hy9 h39).1
                have h311 := (HK11 _ _ _ hy9 h39).2
                clear hO9 hy9 h39 G10 hg10 HK11
                go_wp2_with fail
                go_roundw
                case rel => exact ⟨t + 1, j, cur, qg, qc, Lo ++ [cur], by omega, by omega, by go_num, rfl, rfl, G11, hq11, h311, hO11, by simp [hlo], HPL, HN⟩
                case measure => simp [intOf]; omega
          · obtain rfl : t = k := by omega
            have HF : Hid (Lo = intV f xs L bu ms) := Lib.hid (by
              have := HT.out; rw [show ms.drop t = [] from List.drop_eq_nil_of_le (by rw [HML.out]; exact Nat.le_refl _)] at this
              rw [HP.out.2, ← this]; cases L.drop j <;> simp [intr])
            go_wp2_with fail
            go_ret2
            rw [← HF.out, HP.out.1]
            exact hO.post (G3.trans gr) (by omega)
  · have heb : ((cpR f xs L bu).2 != 0) = true := by simp [he]
    have HP : Hid (intE f xs L bu ms = (cpR f xs L bu).2 ∧ intV f xs L bu ms = []) := Lib.hid (by
      have : intE f xs L bu ms = (cpR f xs L bu).2 := by unfold intE; rw [if_neg he]
      exact ⟨this, by unfold intV; rw [this, if_neg he]⟩)
    clear he
    go_enter Try.func31, Try.ntmps31
    go_wp2_with fail
    refine HC.out.mono ?_
    rintro e w3 ⟨rfl, g3⟩
    go_wp2_with fail
    go_ret2
    exact ⟨none, 0, 0, by rw [HP.out.1]; rfl, by rw [HP.out.2]; exact RowsAt.nil _, g1.trans g3, Nat.le_refl _⟩
end
end Go.Proofs.Ytlilojpnhmfnaaa
