/- Several texts of this claim in one file. (1) Contract: the reference's CheckPlan. (2) Contracts: Back and the reference's. (3) Packets in memory; a block of numbers of a call's own; plain words for Install; contracts of the search for a packet. (4) Contracts: the oldest and the newest state. (5) Contract: slices.Compare of two states. (6) Contract: the reference's states. (7) Contract: the reference's states of a whole fleet. -/
import Derived.Test.YtlilojpnhmfnaaaBd6
import Derived.Test.YtlilojpnhmfnaaaBd7
import Derived.Test.YtlilojpnhmfnaaaBd4
import Derived.Test.YtlilojpnhmfnaaaBd3
import Derived.Test.YtlilojpnhmfnaaaBd1
namespace Go.Proofs.Ytlilojpnhmfnaaa
section
open Go.RowKit

theorem dur_zero_iff {f : Fl} (hok : FlOk f) {a b : List Int} (ha : StOk f a) (hb : StOk f b) (h : aboveV b a = true) : 0 ≤ dur f.times a b ∧ (dur f.times a b = 0 ↔ a = b) := by
  have hle : ∀ c, c < f.times.length → a[c]?.getD 0 ≤ b[c]?.getD 0 := fun c hc => aboveV_le h c (by rw [hb.len]; exact hc)
  have h1 := durTo_bd hok (fun c hc => (ha.ver c hc).1) hb hle f.times.length (Nat.le_refl _)
  have h2 := durTo_zero_iff hok (fun c hc => (ha.ver c hc).1) hb hle f.times.length (Nat.le_refl _)
  unfold dur
  rw [hb.len]
  refine ⟨h1.1, h2.trans ⟨fun he => ?_, fun he => by subst he; intros; rfl⟩⟩
  have hl : a.length = b.length := by rw [ha.len, hb.len]
  exact (eqUpto_iff hl).1 (fun j hj => (he j (by rw [← ha.len]; exact hj)).symm)
theorem stepsB_stepV {f : Fl} (hok : FlOk f) {a b : List Int} (ha : StOk f a) (hb : StOk f b) {bu : Int} : stepsB f.times a b bu = true ↔ 0 ≤ stepV f.times a b ∧ stepV f.times a b ≤ bu := by
  unfold stepsB stepV
  cases h : aboveV b a with
  | false => simp
  | true =>
    have := dur_zero_iff hok ha hb h
    by_cases e : a = b
    · have hz := this.2.2 e
      simp [e] at hz ⊢
      simp [hz]
    · have hz : ¬ dur f.times a b = 0 := fun h => e (this.2.1 h)
      simp [e, hz]
      omega
theorem stepsB_false {f : Fl} (hok : FlOk f) {a b : List Int} (ha : StOk f a) (hb : StOk f b) {bu : Int} (h : stepsB f.times a b bu = false) : stepV f.times a b < 0 ∨ bu < stepV f.times a b := by
  have h1 : ¬ (stepsB f.times a b bu = true) := by simp [h]
  rw [stepsB_stepV hok ha hb] at h1
  omega
theorem stepsB_true2 {f : Fl} (hok : FlOk f) {a b : List Int} (ha : StOk f a) (hb : StOk f b) {bu : Int} (h : stepsB f.times a b bu = true) : 0 ≤ stepV f.times a b ∧ stepV f.times a b ≤ bu := (stepsB_stepV hok ha hb).1 h
theorem stepV_dur {f : Fl} (hok : FlOk f) {a b : List Int} (ha : StOk f a) (hb : StOk f b) {bu : Int} (h : stepsB f.times a b bu = true) : stepV f.times a b = dur f.times a b := by
  have h1 := (stepsB_true2 hok ha hb h).1
  unfold stepV at h1 ⊢
  split at h1
  · split at h1
    · omega
    · rename_i h2 h3; rw [if_pos h2, if_neg h3]
  · omega

theorem stsB_cons (T : List (List Int)) (a : List Int) (L : List (List Int)) : stsB T (a :: L) = (stB T a && stsB T L) := by
  unfold stsB
  rw [List.length_cons, List.range_succ_eq_map]
  simp [List.all_map, Function.comp_def]

theorem cpPre_ref {f : Fl} {a : List Int} {L : List (List Int)} {bu : Int} (h0 : chkE f = 0) (h1 : ¬ 64 < L.length) : (stB f.times a = false → cpPre f a L bu = 1) ∧ (stB f.times a = true → ¬ statesE f L = 0 → cpPre f a L bu = statesE f L) ∧
    (stB f.times a = true → statesE f L = 0 → withinB bu 0 1000000 = false → cpPre f a L bu = 1) ∧ (stB f.times a = true → statesE f L = 0 → withinB bu 0 1000000 = true → cpPre f a L bu = 0) := by
  have hc : chkB f = true := by
    cases h : chkB f with
    | true => rfl
    | false => rw [chkE_of_false h] at h0; omega
  have e : cpPre f a L bu = beginE f bu (a :: L) := by unfold cpPre; rw [if_pos h0, if_neg h1]
  have e2 : statesE f (a :: L) = if stB f.times a && stsB f.times L then 0 else 1 := by unfold statesE; rw [if_pos hc, stsB_cons]
  have e3 : statesE f L = if stsB f.times L then 0 else 1 := by unfold statesE; rw [if_pos hc]
  refine ⟨fun hs => ?_, fun hs hl => ?_, fun hs hl hb => ?_, fun hs hl hb => ?_⟩
  · rw [e]; unfold beginE; rw [e2, hs]; simp
  · cases hl2 : stsB f.times L with
    | true => rw [e3, hl2] at hl; simp at hl
    | false => rw [e]; unfold beginE; rw [e2, e3, hs, hl2]; simp
  · cases hl2 : stsB f.times L with
    | true => rw [e]; unfold beginE; rw [e2, hs, hl2, hb]; simp
    | false => rw [e3, hl2] at hl; simp at hl
  · cases hl2 : stsB f.times L with
    | true => rw [e]; unfold beginE; rw [e2, hs, hl2, hb]; simp
    | false => rw [e3, hl2] at hl; simp at hl

set_option maxRecDepth 100000 in
set_option maxHeartbeats 4000000 in
theorem checkPlan2_any (ta ca a pa : Option Addr) (tn tc cn cc n c pn pc : Nat) (f : Fl) (xs : List Int) (L : List (List Int)) (bu : Int) (w : World) (hf : FlAt w ta tn ca cn f) (hx : Ints w a n xs) (hL : RowsAt w pa pn L) :
    Calls Try.prog 29 #[.agg #[.slice ta tn tc, .slice ca cn cc], .slice a n c, .slice pa pn pc, .int .i64 bu] w fun e w' => e = .returned (.tuple #[.int .i64 (cpR f xs L bu).1, .int .i64 (cpR f xs L bu).2]) ∧ Gr w w' := by
  have g1 := Gr.alloc w (.cells #[.slice ta tn tc, .slice ca cn cc] 25)
  have c0 := cell_new (w := w) (t := 25) (cs := #[.slice ta tn tc, .slice ca cn cc]) (j := 0) rfl
  have c1 := cell_new (w := w) (t := 25) (cs := #[.slice ta tn tc, .slice ca cn cc]) (j := 1) rfl
  obtain ⟨w1, hw1⟩ : ∃ w1, w.alloc (.cells #[.slice ta tn tc, .slice ca cn cc] 25) = w1 := ⟨_, rfl⟩
  rw [hw1] at g1 c0 c1
  have HC := Lib.hid (check2_any ta ca tn tc cn cc f w1 (hf.gr g1))
  have hpl := hL.lt
  by_cases he : chkE f = 0
  · have heb : (chkE f != 0) = false := by simp [he]
    by_cases h64 : 64 < pn
    · have HP : Hid (cpR f xs L bu = (0, 1)) := Lib.hid (by unfold cpR cpPre; rw [if_pos he, hL.len, if_pos h64]; rfl)
      clear he
      go_enter Try.func29, Try.ntmps29
      go_wp2_with fail
      refine HC.out.mono ?_
      rintro e w3 ⟨rfl, g3⟩
      go_wp2_with fail
      go_ret2
      exact ⟨by rw [HP.out]; rfl, g1.trans g3⟩
    have hpre := cpPre_ref (a := xs) (bu := bu) he (by rw [hL.len]; exact h64)
    have HPRE := Lib.hid hpre
    have HE := Lib.hid he
    clear he hpre
    go_enter Try.func29, Try.ntmps29
    go_wp2_with fail
    refine HC.out.mono ?_
    rintro e w3 ⟨rfl, g3⟩
    have G3 := g1.trans g3
    have d0 := (g3.cell (lt_cell c0)).trans c0
    have d1 := (g3.cell (lt_cell c1)).trans c1
    clear hw1 c0 c1 HC g1 g3
    have HS := Lib.hid (state_any ta ca a tn tc cn cc n c f xs w3 (hf.gr G3) (hx.gr G3))
    go_wp2_with fail
    refine HS.out.mono ?_
    rintro e w4 ⟨rfl, g4⟩
    have G4 := G3.trans g4
    have e0 := (g4.cell (lt_cell d0)).trans d0
    have e1 := (g4.cell (lt_cell d1)).trans d1
    clear d0 d1 HS g4
    cases hst : stB f.times xs with
    | false =>
      have HP : Hid (cpR f xs L bu = (0, 1)) := Lib.hid (by unfold cpR; rw [HPRE.out.1 hst]; rfl)
      clear hst
      go_wp2_with fail
      go_ret2
      exact ⟨by rw [HP.out]; rfl, G4⟩
    | true =>
      have HSD := Lib.hid (stated_any ta ca pa tn tc cn cc pn pc f L w4 (hf.gr G4) (hL.gr G4))
      have HST := Lib.hid hst
      clear hst
      go_wp2_with fail
      refine HSD.out.mono ?_
      rintro e w5 ⟨rfl, g5⟩
      have G5 := G4.trans g5
      have k0 := (g5.cell (lt_cell e0)).trans e0
      have k1 := (g5.cell (lt_cell e1)).trans e1
      clear e0 e1 HSD g5
      by_cases hl0 : statesE f L = 0
      · have hlb : (statesE f L != 0) = false := by simp [hl0]
        have HL0 := Lib.hid hl0
        clear hl0
        cases hb : withinB bu 0 1000000 with
        | false =>
          have HP : Hid (cpR f xs L bu = (0, 1)) := Lib.hid (by unfold cpR; rw [HPRE.out.2.2.1 HST.out HL0.out hb]; rfl)
          go_wp2_with (go_at_call 63; refine (within2_any _ _ _ _).mono ?_; rintro e w' ⟨rfl, rfl⟩)
          go_ret2
          exact ⟨by rw [HP.out]; rfl, G5⟩
        | true =>
          have hok : FlOk f := chkB_ok (statesE_zero HL0.out).1
          have hst := stB_ok HST.out
          have hall : ∀ j, j < L.length → StOk f (L[j]?.getD []) := by
            have h1 := (statesE_zero HL0.out).2
            simp only [stsB, List.all_eq_true, List.mem_range] at h1
            exact fun j hj => stB_ok (h1 j hj)
          have hnt : n = f.times.length := by rw [← hst.len, hx.len]
          have HPR : Hid (cpR f xs L bu = if worksB f xs then cpLoop f bu xs L 0 else (-1, 111)) := Lib.hid (by unfold cpR; rw [HPRE.out.2.2.2 HST.out HL0.out hb, if_pos rfl])
          have HNT := Lib.hid hnt
          have HALL := Lib.hid hall
          have HOK := Lib.hid hok
          have h0 := clashI_of f xs
          have HW := Lib.hid (clash2_any ta ca a tn tc cn cc n c f xs w5 (hf.gr G5) hok (hx.gr G5) hst)
          clear hnt hall hok HPRE
          go_wp2_with (go_at_call 63; refine (within2_any _ _ _ _).mono ?_; rintro e w' ⟨rfl, rfl⟩)
          refine HW.out.mono ?_
          rintro e w6 ⟨rfl, g6⟩
          have G6 := G5.trans g6
          have j0 := (g6.cell (lt_cell k0)).trans k0
          have j1 := (g6.cell (lt_cell k1)).trans k1
          clear k0 k1 HW g6
          cases hwx : worksB f xs with
          | false =>
            have HP : Hid (cpR f xs L bu = (-1, 111)) := Lib.hid (by rw [HPR.out, hwx]; rfl)
            have h0 := h0.2 hwx
            go_wp2_with fail
            go_ret2
            exact ⟨by rw [HP.out]; rfl, G6⟩
          | true =>
            have HP : Hid (cpR f xs L bu = cpLoop f bu xs L 0) := Lib.hid (by rw [HPR.out, hwx]; rfl)
            have h0 := h0.1 hwx
            clear HPR
            go_wp2_with fail
            go_loopw [12, 13] (fun s i wr => ∃ (k : Nat) (p : List Int) (qa : Option Addr) (qc : Nat), k ≤ pn ∧ i = .int .i64 k ∧ s = .slice qa n qc ∧ Gr w wr ∧ Ints wr qa n p ∧ StOk f p ∧ wr.cell? ⟨w.heap.size, 0, none⟩ = some (.slice ta tn tc) ∧ wr.cell? ⟨w.heap.size, 1, none⟩ = some (.slice ca cn cc) ∧ Hid (cpLoop f bu xs L 0 = cpLoop f bu p (L.drop k) k)) (fun _ i _ => pn - (intOf i).toNat)
            case atStart => exact ⟨0, xs, a, c, Nat.zero_le _, rfl, rfl, G6, hx.gr G6, hst, j0, j1, Lib.hid (by simp)⟩
            case round =>
              obtain ⟨k, p, qa, qc, hk, rfl, rfl, gr, hp, hps, m0, m1, HL⟩ := hrel
              by_cases hlt : k < pn
              · obtain ⟨pd, ya, yn, yc, rfl, hpb, hpc, hyi⟩ := (hL.gr gr).at hlt
                have hys : StOk f (L[k]?.getD []) := HALL.out k (by rw [hL.len]; exact hlt)
                have hyn : yn = n := by rw [← hyi.len, hys.len]; exact HNT.out.symm
                subst hyn
                have hdr : Hid (L.drop k = (L[k]?.getD []) :: L.drop (k + 1)) := Lib.hid (by
                  have hl : k < L.length := by rw [hL.len]; exact hlt
                  rw [List.drop_eq_getElem_cons hl]; simp [hl])
                generalize L[k]?.getD [] = y at *
                obtain ⟨n, hnn⟩ : ∃ n, n = yn := ⟨_, rfl⟩
                subst hnn
                have HCL : Hid (∀ W, Gr wr W → Calls Try.prog 69 #[.agg #[.slice ta tn tc, .slice ca cn cc], .slice ya n yc] W fun e w' => e = .returned (.int .i64 (clashI f y)) ∧ Gr W w') := Lib.hid (fun W g => clash2_any ta ca ya tn tc cn cc n yc f y W (hf.gr (gr.trans g)) HOK.out (hyi.gr g) hys)
                obtain ⟨cb, hge, hcb⟩ : ∃ cb, decide (0 ≤ clashI f y) = cb ∧ Hid ((!cb) = worksB f y) := ⟨_, rfl, Lib.hid (by unfold worksB; by_cases h : clashI f y < 0 <;> simp [h] <;> omega)⟩
                go_wp2_with fail
                refine (wpIn_wide (n := 0)).1 ?_
                refine region_inv (F := Fence.wide) (by kernel_rfl) (by rfl) (by decide) (fun _ => trivial)
                  (fun done' u W' => Kn [some (.agg #[.slice ta tn tc, .slice ca cn cc]), some (.slice (some pd) pn pc), some (.int .i64 k), some (.pointer (some (pd.add k))), some (.slice ya n yc), some (.int .i64 (clashI f y)), some (.bool cb)] done' u ∧ Gr wr W')
                  (fun u => ⟨Kn.start _ _, Gr.drew wr⟩) ⟨?_, ?_, ?_, ?_, ?_, ?_, ?_, trivial⟩ ?_
                · rintro u done' W' hd hanc hclo ⟨hk, hg⟩
                  have c_m0 := (hg.cell (lt_cell m0)).trans m0
                  have c_m1 := (hg.cell (lt_cell m1)).trans m1
                  refine op_plain (ro := none) rfl (fun c h => by cases h) fun K hK => ?_
                  simp only [fillL, List.setIfInBounds_toArray, List.set_cons_zero, List.set_cons_succ, Nat.zero_add, Nat.reduceAdd] at hK ⊢
                  go_simp
                  exact hK _ _ ⟨hk.new rfl, hg⟩
                · rintro u done' W' hd hanc hclo ⟨hk, hg⟩
                  refine op_plain (ro := none) rfl (fun c h => by cases h) fun K hK => ?_
                  simp only [fillL, List.setIfInBounds_toArray, List.set_cons_zero, List.set_cons_succ, Nat.zero_add, Nat.reduceAdd] at hK ⊢
                  go_simp
                  exact hK _ _ ⟨hk.new rfl, hg⟩
                · rintro u done' W' hd hanc hclo ⟨hk, hg⟩
                  refine op_plain (ro := none) rfl (fun c h => by cases h) fun K hK => ?_
                  simp only [fillL, List.setIfInBounds_toArray, List.set_cons_zero, List.set_cons_succ, Nat.zero_add, Nat.reduceAdd] at hK ⊢
                  go_simp
                  exact hK _ _ ⟨hk.new rfl, hg⟩
                · rintro u done' W' hd hanc hclo ⟨hk, hg⟩
                  have e1 := hk.get 1 rfl (hanc 1 (mem_of (by kernel_rfl)))
                  have e2 := hk.get 2 rfl (hanc 2 (mem_of (by kernel_rfl)))
                  refine op_plain (ro := none) rfl (fun c h => by cases h) fun K hK => ?_
                  simp only [fillL, List.setIfInBounds_toArray, List.set_cons_zero, List.set_cons_succ, Nat.zero_add, Nat.reduceAdd, e1, e2] at hK ⊢
                  go_simp
                  exact hK _ _ ⟨hk.new rfl, hg⟩
                · rintro u done' W' hd hanc hclo ⟨hk, hg⟩
                  have e3 := hk.get 3 rfl (hanc 3 (mem_of (by kernel_rfl)))
                  have c_hpc := (hg.cell (lt_cell hpc)).trans hpc
                  refine op_plain (ro := none) rfl (fun c h => by cases h) fun K hK => ?_
                  simp only [fillL, List.setIfInBounds_toArray, List.set_cons_zero, List.set_cons_succ, Nat.zero_add, Nat.reduceAdd, e3] at hK ⊢
                  go_simp
                  exact hK _ _ ⟨hk.new rfl, hg⟩
                · rintro u done' W' hd hanc hclo ⟨hk, hg⟩
                  have e0 := hk.get 0 rfl (hanc 0 (mem_of (by kernel_rfl)))
                  have e4 := hk.get 4 rfl (hanc 4 (mem_of (by kernel_rfl)))
                  have HCON := Lib.hid (HCL.out W' hg)
                  refine op_plain (ro := none) rfl (fun c h => by cases h) fun K hK => ?_
                  simp only [fillL, List.setIfInBounds_toArray, List.set_cons_zero, List.set_cons_succ, Nat.zero_add, Nat.reduceAdd, e0, e4] at hK ⊢
                  go_simp
                  refine HCON.out.mono ?_
                  rintro e w6 ⟨rfl, hg6⟩
                  exact hK _ _ ⟨hk.new rfl, hg.trans hg6⟩
                · rintro u done' W' hd hanc hclo ⟨hk, hg⟩
                  have e5 := hk.get 5 rfl (hanc 5 (mem_of (by kernel_rfl)))
                  refine op_plain (ro := none) rfl (fun c h => by cases h) fun K hK => ?_
                  simp only [fillL, List.setIfInBounds_toArray, List.set_cons_zero, List.set_cons_succ, Nat.zero_add, Nat.reduceAdd, e5] at hK ⊢
                  go_simp
                  exact hK _ _ ⟨hk.new rfl, hg⟩
                · rintro u W' ⟨done', hdn, hk, hg⟩
                  have e6 := hk.get 6 rfl (hdn 6 (by decide))
                  simp only [fillL, List.setIfInBounds_toArray, List.set_cons_zero, List.set_cons_succ, Nat.zero_add, Nat.reduceAdd, e6]
                  clear hk hdn e6
                  have G6 := gr.trans hg
                  have q0 := (hg.cell (lt_cell m0)).trans m0
                  have q1 := (hg.cell (lt_cell m1)).trans m1
                  have qpc := (hg.cell (lt_cell hpc)).trans hpc
                  have g6 := hg
                  clear HCL m0 m1 hpc
                  cases cb with
                  | true =>
                    have hwy : worksB f y = false := by simpa using hcb.out
                    have HF : Hid (cpR f xs L bu = ((k : Int), 111)) := Lib.hid (by rw [HP.out, HL.out, hdr.out]; simp [cpLoop, hwy])
                    clear hwy hcb hge
                    go_wp2_with fail
                    go_ret2
                    exact ⟨by rw [HF.out]; rfl, G6⟩
                  | false =>
                    have hwy : Hid (worksB f y = true) := Lib.hid (by simpa using hcb.out)
                    clear hcb hge
                    have HST : Hid (∀ W, Gr W' W → Calls Try.prog 70 #[.agg #[.slice ta tn tc, .slice ca cn cc], .slice qa n qc, .slice ya n yc] W fun e w' => e = .returned (.int .i64 (stepV f.times p y)) ∧ Gr W w') := Lib.hid (fun W g => step_any ta ca qa ya tn tc cn cc n qc yc f p y W (hf.gr (G6.trans g)) HOK.out (hp.gr (g6.trans g)) (hyi.gr (g6.trans g)) hps hys)
                    clear hg
                    obtain ⟨w6, hw6⟩ : ∃ w6, w6 = W' := ⟨_, rfl⟩
                    subst hw6
                    go_wp2_with fail
                    refine (wpIn_wide (n := 0)).1 ?_
                    refine region_inv (F := Fence.wide) (by kernel_rfl) (by rfl) (by decide) (fun _ => trivial)
                      (fun done' u W' => Kn [some (.agg #[.slice ta tn tc, .slice ca cn cc]), some (.slice qa n qc), some (.slice (some pd) pn pc), some (.int .i64 k), some (.pointer (some (pd.add k))), some (.slice ya n yc), some (.int .i64 (stepV f.times p y)), some (.int .i64 (stepV f.times p y))] done' u ∧ Gr w6 W')
                      (fun u => ⟨Kn.start _ _, Gr.drew w6⟩) ⟨?_, ?_, ?_, ?_, ?_, ?_, ?_, ?_, trivial⟩ ?_
                    · rintro u done' W' hd hanc hclo ⟨hk, hg⟩
                      have c_q0 := (hg.cell (lt_cell q0)).trans q0
                      have c_q1 := (hg.cell (lt_cell q1)).trans q1
                      refine op_plain (ro := none) rfl (fun c h => by cases h) fun K hK => ?_
                      simp only [fillL, List.setIfInBounds_toArray, List.set_cons_zero, List.set_cons_succ, Nat.zero_add, Nat.reduceAdd] at hK ⊢
                      go_simp
                      exact hK _ _ ⟨hk.new rfl, hg⟩
                    · rintro u done' W' hd hanc hclo ⟨hk, hg⟩
                      refine op_plain (ro := none) rfl (fun c h => by cases h) fun K hK => ?_
                      simp only [fillL, List.setIfInBounds_toArray, List.set_cons_zero, List.set_cons_succ, Nat.zero_add, Nat.reduceAdd] at hK ⊢
                      go_simp
                      exact hK _ _ ⟨hk.new rfl, hg⟩
                    · rintro u done' W' hd hanc hclo ⟨hk, hg⟩
                      refine op_plain (ro := none) rfl (fun c h => by cases h) fun K hK => ?_
                      simp only [fillL, List.setIfInBounds_toArray, List.set_cons_zero, List.set_cons_succ, Nat.zero_add, Nat.reduceAdd] at hK ⊢
                      go_simp
                      exact hK _ _ ⟨hk.new rfl, hg⟩
                    · rintro u done' W' hd hanc hclo ⟨hk, hg⟩
                      refine op_plain (ro := none) rfl (fun c h => by cases h) fun K hK => ?_
                      simp only [fillL, List.setIfInBounds_toArray, List.set_cons_zero, List.set_cons_succ, Nat.zero_add, Nat.reduceAdd] at hK ⊢
                      go_simp
                      exact hK _ _ ⟨hk.new rfl, hg⟩
                    · rintro u done' W' hd hanc hclo ⟨hk, hg⟩
                      have e2 := hk.get 2 rfl (hanc 2 (mem_of (by kernel_rfl)))
                      have e3 := hk.get 3 rfl (hanc 3 (mem_of (by kernel_rfl)))
                      refine op_plain (ro := none) rfl (fun c h => by cases h) fun K hK => ?_
                      simp only [fillL, List.setIfInBounds_toArray, List.set_cons_zero, List.set_cons_succ, Nat.zero_add, Nat.reduceAdd, e2, e3] at hK ⊢
                      go_simp
                      exact hK _ _ ⟨hk.new rfl, hg⟩
                    · rintro u done' W' hd hanc hclo ⟨hk, hg⟩
                      have e4 := hk.get 4 rfl (hanc 4 (mem_of (by kernel_rfl)))
                      have c_qpc := (hg.cell (lt_cell qpc)).trans qpc
                      refine op_plain (ro := none) rfl (fun c h => by cases h) fun K hK => ?_
                      simp only [fillL, List.setIfInBounds_toArray, List.set_cons_zero, List.set_cons_succ, Nat.zero_add, Nat.reduceAdd, e4] at hK ⊢
                      go_simp
                      exact hK _ _ ⟨hk.new rfl, hg⟩
                    · rintro u done' W' hd hanc hclo ⟨hk, hg⟩
                      have e0 := hk.get 0 rfl (hanc 0 (mem_of (by kernel_rfl)))
                      have e1 := hk.get 1 rfl (hanc 1 (mem_of (by kernel_rfl)))
                      have e5 := hk.get 5 rfl (hanc 5 (mem_of (by kernel_rfl)))
                      have HCON := Lib.hid (HST.out W' hg)
                      refine op_plain (ro := none) rfl (fun c h => by cases h) fun K hK => ?_
                      simp only [fillL, List.setIfInBounds_toArray, List.set_cons_zero, List.set_cons_succ, Nat.zero_add, Nat.reduceAdd, e0, e1, e5] at hK ⊢
                      go_simp
                      refine HCON.out.mono ?_
                      rintro e w7 ⟨rfl, hg6⟩
                      exact hK _ _ ⟨hk.new rfl, hg.trans hg6⟩
                    · rintro u done' W' hd hanc hclo ⟨hk, hg⟩
                      have e6 := hk.get 6 rfl (hanc 6 (mem_of (by kernel_rfl)))
                      refine op_plain (ro := none) rfl (fun c h => by cases h) fun K hK => ?_
                      simp only [fillL, List.setIfInBounds_toArray, List.set_cons_zero, List.set_cons_succ, Nat.zero_add, Nat.reduceAdd, e6] at hK ⊢
                      go_simp
                      exact hK _ _ ⟨hk.new rfl, hg⟩
                    · rintro u W' ⟨done', hdn, hk, hg⟩
                      have e7 := hk.get 7 rfl (hdn 7 (by decide))
                      simp only [fillL, List.setIfInBounds_toArray, List.set_cons_zero, List.set_cons_succ, Nat.zero_add, Nat.reduceAdd, e7]
                      clear hk hdn e7
                      have G7 := G6.trans hg
                      have r0 := (hg.cell (lt_cell q0)).trans q0
                      have r1 := (hg.cell (lt_cell q1)).trans q1
                      have rpc := (hg.cell (lt_cell qpc)).trans qpc
                      clear q0 q1 qpc
                      cases hsy : stepsB f.times p y bu with
                      | false =>
                        have HF : Hid (cpR f xs L bu = ((k : Int), 112)) := Lib.hid (by rw [HP.out, HL.out, hdr.out]; simp [cpLoop, hwy.out, hsy])
                        have hsv := stepsB_false HOK.out hps hys hsy
                        clear hsy
                        by_cases hneg : stepV f.times p y < 0
                        · go_wp2_with fail
                          go_ret2
                          exact ⟨by rw [HF.out]; rfl, G7⟩
                        · have hgt : bu < stepV f.times p y := by omega
                          go_wp2_with fail
                          go_ret2
                          exact ⟨by rw [HF.out]; rfl, G7⟩
                      | true =>
                        have HF : Hid (cpLoop f bu xs L 0 = cpLoop f bu y (L.drop (k + 1)) ((k + 1 : Nat) : Int)) := Lib.hid (by rw [HL.out, hdr.out]; simp [cpLoop, hwy.out, hsy])
                        have hsv := stepsB_true2 HOK.out hps hys hsy
                        have hneg : ¬ stepV f.times p y < 0 := by omega
                        have hgt : ¬ bu < stepV f.times p y := by omega
                        have hy7 := (hyi.gr g6).gr hg
                        clear hsy hsv
                        go_wp2_with fail
                        go_roundw
                        case rel => exact ⟨k + 1, y, ya, yc, by omega, by go_num, rfl, G7, hy7, hys, r0, r1, HF⟩
                        case measure => simp [intOf]; omega
              · obtain rfl : k = pn := by omega
                have HF : Hid (cpR f xs L bu = (0, 0)) := Lib.hid (by rw [HP.out, HL.out, List.drop_eq_nil_of_le (by rw [hL.len]; exact Nat.le_refl _)]; rfl)
                go_wp2_with fail
                go_ret2
                exact ⟨by rw [HF.out]; rfl, gr⟩
      · have hlb : (statesE f L != 0) = true := by simp [hl0]
        have HP : Hid (cpR f xs L bu = (0, statesE f L)) := Lib.hid (by unfold cpR; rw [HPRE.out.2.1 HST.out hl0, if_neg hl0])
        clear hl0
        go_wp2_with fail
        go_ret2
        exact ⟨by rw [HP.out]; rfl, G5⟩
  · have heb : (chkE f != 0) = true := by simp [he]
    have HP : Hid (cpR f xs L bu = (0, chkE f)) := Lib.hid (by unfold cpR cpPre; rw [if_neg he, if_neg he])
    clear he
    go_enter Try.func29, Try.ntmps29
    go_wp2_with fail
    refine HC.out.mono ?_
    rintro e w3 ⟨rfl, g3⟩
    go_wp2_with fail
    go_ret2
    exact ⟨by rw [HP.out]; rfl, g1.trans g3⟩
end
section
open Go.RowKit

theorem run_take (w : World) (pa : Option Addr) (n c k : Nat) (hk : k ≤ c) : (Instr.slice 22 (.slice pa n c) none (some (.int .i64 k)) none).run Try.prog w = .ok (.slice pa k c) w := by
  have hu := Try.underlying22
  have ha : ∀ a : Addr, a.add 0 = a := fun a => by unfold Addr.add; rfl
  have hm : pa.map (fun a => a.add 0) = pa := by cases pa <;> simp [ha]
  have h1 : (0 : Int) ≤ k ∧ (k : Int) ≤ c := by omega
  obtain ⟨i0, hi, hz0, hz1, hz2⟩ := info_parts Try.info26
  simp [Instr.slice, Instr.sliceBounds, Instr.sliceBound, underlying, hu, sizeOf, hi, hz1, asIntOf, h1, hm, go_sem]
  intro h; omega

/-- append of the first states of a plan to a new list of one state -/
theorem wpList_front {ops : Array Oper} {rest : List Oper} {o : Oper} {a : Act} {w3 W : World} {Q : Exit → Act → World → Prop} (hgd : o.guard = none) {s x : Operand} {sa pa : Option Addr} {n c pn pc g : Nat} {xs : List Int} {L : List (List Int)}
    (ho : o.op = .call { callee := .builtin .append, args := #[s, x], argTypes := #[22, 22] }) (hs : a.eval s = .slice (some ⟨g, 0, none⟩) 1 1) (hx : a.eval x = .slice pa pn pc)
    (hg : W.heap[g]? = some (.cells #[.slice sa n c] 26 (0, 0))) (hge : w3.heap.size ≤ g) (hgr : Gr w3 W) (hi : Ints w3 sa n xs) (hL : RowsAt w3 pa pn L) (h64 : pn ≤ 64)
    (h : ∀ ra rc w6, RowsAt w6 ra (pn + 1) (xs :: L) → Gr w3 w6 → wpList Try.prog ops Q rest (a.put o.dst (.slice ra (pn + 1) rc)) w6) : wpList Try.prog ops Q (o :: rest) a W :=
  wpList_plain hgd fun K hK => cp_append ho hs hx hg hge hgr hi hL h64 (fun ra rc w6 k1 k2 => hK _ _ (h ra rc w6 k1 k2))

set_option maxRecDepth 100000 in
set_option maxHeartbeats 4000000 in
theorem back_any (ta ca a pa : Option Addr) (tn tc cn cc n c pn pc : Nat) (f : Fl) (xs : List Int) (L : List (List Int)) (bu dn : Int) (w : World) (hf : FlAt w ta tn ca cn f) (hx : Ints w a n xs) (hL : RowsAt w pa pn L) (hpc : pn ≤ pc) :
    Calls Try.prog 32 #[.agg #[.slice ta tn tc, .slice ca cn cc], .slice a n c, .slice pa pn pc, .int .i64 bu, .int .i64 dn] w (PlanPost w (backV f xs L bu dn) (backE f xs L bu dn)) := by
  have g1 := Gr.alloc w (.cells #[.slice ta tn tc, .slice ca cn cc] 25)
  have c0 := cell_new (w := w) (t := 25) (cs := #[.slice ta tn tc, .slice ca cn cc]) (j := 0) rfl
  have c1 := cell_new (w := w) (t := 25) (cs := #[.slice ta tn tc, .slice ca cn cc]) (j := 1) rfl
  obtain ⟨w1, hw1⟩ : ∃ w1, w.alloc (.cells #[.slice ta tn tc, .slice ca cn cc] 25) = w1 := ⟨_, rfl⟩
  rw [hw1] at g1 c0 c1
  have HC := Lib.hid (checkPlan_any ta ca a pa tn tc cn cc n c pn pc f xs L bu w1 (hf.gr g1) (hx.gr g1) (hL.gr g1))
  by_cases he : (cpR f xs L bu).2 = 0
  · have heb : ((cpR f xs L bu).2 != 0) = false := by simp [he]
    have HE : Hid (backE f xs L bu dn = (if withinB dn 0 L.length then 0 else 1)) := Lib.hid (by unfold backE; rw [if_pos he])
    have hpl := cpR_pl he
    have HPL := Lib.hid hpl
    have hn1 : 0 < n := by have := hpl.ok.n1; have := hpl.a.len; have := hx.len; omega
    have hn6 : n ≤ 6 := by have := hpl.ok.n6; have := hpl.a.len; have := hx.len; omega
    have hp64 : pn ≤ 64 := by have := hpl.n64; have := hL.len; omega
    have hPN := Lib.hid hL.len
    clear he hpl
    cases hb : withinB dn 0 pn with
    | false =>
      have HP : Hid (backE f xs L bu dn = 1 ∧ backV f xs L bu dn = []) := Lib.hid (by
        have : backE f xs L bu dn = 1 := by rw [HE.out, hL.len, hb]; rfl
        exact ⟨this, by unfold backV; rw [this]; rfl⟩)
      have HWI := Lib.hid (show ∀ W, Calls Try.prog 61 #[.int .i64 dn, .int .i64 0, .int .i64 pn] W fun e w' => e = .returned (.bool false) ∧ W = w' from fun W => hb ▸ within_any dn 0 pn W)
      clear hb
      go_enter Try.func32, Try.ntmps32
      go_wp2_with fail
      refine HC.out.mono ?_
      rintro e w3 ⟨rfl, g3⟩
      go_wp2_with fail
      refine (HWI.out _).mono ?_
      rintro e w' ⟨rfl, rfl⟩
      go_wp2_with fail
      go_ret2
      exact ⟨none, 0, 0, by rw [HP.out.1]; rfl, by rw [HP.out.2]; exact RowsAt.nil _, g1.trans g3, Nat.le_refl _⟩
    | true =>
      obtain ⟨d, rfl, hdp⟩ : ∃ d : Nat, dn = d ∧ d ≤ pn := by
        simp [withinB] at hb
        exact ⟨dn.toNat, by omega, by omega⟩
      have HP : Hid (backE f xs L bu d = 0 ∧ backV f xs L bu d = bk xs L d) := Lib.hid (by
        have : backE f xs L bu d = 0 := by rw [HE.out, hL.len, hb]; rfl
        exact ⟨this, by unfold backV; rw [this]; rfl⟩)
      have HWI := Lib.hid (show ∀ W, Calls Try.prog 61 #[.int .i64 d, .int .i64 0, .int .i64 pn] W fun e w' => e = .returned (.bool true) ∧ W = w' from fun W => hb ▸ within_any d 0 pn W)
      clear hb HE
      go_enter Try.func32, Try.ntmps32
      go_wp2_with fail
      refine HC.out.mono ?_
      rintro e w3 ⟨rfl, g3⟩
      have G3 := g1.trans g3
      have hx3 := hx.gr G3
      have hL3 := hL.gr G3
      clear hw1 c0 c1 HC g1 g3
      have hsl := run_take w3 pa pn pc d (by omega)
      have g4 := Gr.alloc w3 (.cells #[.slice a n c] 26)
      have hg4 := heap_alloc_new w3 (.cells #[.slice a n c] 26)
      have hsl4 := run_take (w3.alloc (.cells #[.slice a n c] 26)) pa pn pc d (by omega)
      have hLd : RowsAt w3 pa d (L.take d) := hL3.take hdp
      go_wp2_with fail
      refine (HWI.out _).mono ?_
      rintro e w' ⟨rfl, rfl⟩
      clear HWI
      go_wp2_with (at_builtin; refine wpList_front rfl rfl rfl rfl hg4 (Nat.le_refl _) g4 hx3 hLd (by omega) ?_; intro ra rc w5 hA g5)
      clear hg4 g4 hsl hsl4 hLd
      go_wp2_with fail
      go_loopw [10, 15] (fun o i wr => ∃ (k : Nat) (Lo : List (List Int)), k ≤ d ∧ i = .int .i64 ((k : Int) - 1) ∧ Gr w5 wr ∧ OutR wr w5.heap.size o Lo ∧ Lo.length = d - k ∧ Hid (Lo ++ bk xs L k = bk xs L d)) (fun _ i _ => (intOf i + 1).toNat)
      case atStart => exact ⟨d, [], Nat.le_refl _, rfl, Gr.refl _, OutR.nil _ _, by simp, Lib.hid rfl⟩
      case round =>
        obtain ⟨k, Lo, hk, rfl, gr, hO, hlo, HT⟩ := hrel
        cases k with
        | zero =>
          have hz : (((0 : Nat) : Int) - 1) = -1 := rfl
          rw [hz]
          have HF : Hid (Lo = backV f xs L bu d) := Lib.hid (by rw [HP.out.2, ← HT.out]; simp [bk])
          clear hz
          go_wp2_with fail
          go_ret2
          rw [← HF.out, HP.out.1]
          exact hO.post ((G3.trans g5).trans gr) (by omega)
        | succ m =>
          have hz : (((m + 1 : Nat) : Int) - 1) = (m : Int) := by omega
          rw [hz]
          obtain ⟨pd, qa, qn, qc, rfl, hpb, hpcell, hqi⟩ := (hA.gr gr).at (j := m) (by omega)
          have hqv : ((xs :: L.take d)[m]?.getD []) = pAt xs L m := by
            unfold pAt
            cases m with
            | zero => rfl
            | succ m => simp only [List.getElem?_cons_succ]; rw [List.getElem?_take_of_lt (by omega)]
          rw [hqv] at hqi
          have hqn : qn = n := by
            have := (HPL.out.at (k := m) (by have := hPN.out; omega)).len
            have := HPL.out.a.len; have := hx.len; have := hqi.len; omega
          subst hqn
          have HT2 : Hid ((Lo ++ [pAt xs L m]) ++ bk xs L m = bk xs L d) := Lib.hid (by rw [← HT.out]; simp [bk])
          generalize pAt xs L m = q at *
          obtain ⟨qd, rfl, _, _⟩ := hqi.at hn1
          have HCN := Lib.hid (clone_any (some qd) qn qc q wr hqi hn1 (by omega))
          have hlc := hqi.len
          clear hqv hz
          go_wp2_with fail
          refine HCN.out.mono ?_
          rintro e w9 ⟨g9, gc, rfl, hge9, hgi, hg9, hg3⟩
          rw [hlc] at hgi ⊢
          have G9 := gr.trans hg9
          have hO9 := hO.gr (hg9.allocR (.cells #[.slice (some ⟨g9, 0, none⟩) qn gc] 26))
          have hy9 := hgi.gr (Gr.alloc w9 (.cells #[.slice (some ⟨g9, 0, none⟩) qn gc] 26))
          have h39 := hg3.gr (Gr.alloc w9 (.cells #[.slice (some ⟨g9, 0, none⟩) qn gc] 26))
          have G10 := G9.allocR (.cells #[.slice (some ⟨g9, 0, none⟩) qn gc] 26)
          have hg10 := heap_alloc_new w9 (.cells #[.slice (some ⟨g9, 0, none⟩) qn gc] 26)
          clear HCN hgi hg3 hg9
          go_wp2_with (at_builtin; refine wpList_push rfl rfl rfl rfl hg10 hO9 G10 hy9 h39 (by omega) ?_; intro v' w11 hO11 G11 _)
          clear hO9 hy9 h39 G10 hg10
          go_wp2_with fail
          go_roundw
          case rel => exact ⟨m, Lo ++ [q], by omega, rfl, G11, hO11, by simp only [List.length_append, List.length_singleton, hlo]; omega, HT2⟩
          case measure => simp [intOf] <;> omega
  · have heb : ((cpR f xs L bu).2 != 0) = true := by simp [he]
    have HP : Hid (backE f xs L bu dn = (cpR f xs L bu).2 ∧ backV f xs L bu dn = []) := Lib.hid (by
      have : backE f xs L bu dn = (cpR f xs L bu).2 := by unfold backE; rw [if_neg he]
      exact ⟨this, by unfold backV; rw [this, if_neg he]⟩)
    clear he
    go_enter Try.func32, Try.ntmps32
    go_wp2_with fail
    refine HC.out.mono ?_
    rintro e w3 ⟨rfl, g3⟩
    go_wp2_with fail
    go_ret2
    exact ⟨none, 0, 0, by rw [HP.out.1]; rfl, by rw [HP.out.2]; exact RowsAt.nil _, g1.trans g3, Nat.le_refl _⟩

set_option maxRecDepth 100000 in
set_option maxHeartbeats 4000000 in
theorem back2_any (ta ca a pa : Option Addr) (tn tc cn cc n c pn pc : Nat) (f : Fl) (xs : List Int) (L : List (List Int)) (bu dn : Int) (w : World) (hf : FlAt w ta tn ca cn f) (hx : Ints w a n xs) (hL : RowsAt w pa pn L) :
    Calls Try.prog 33 #[.agg #[.slice ta tn tc, .slice ca cn cc], .slice a n c, .slice pa pn pc, .int .i64 bu, .int .i64 dn] w (PlanPost w (backV f xs L bu dn) (backE f xs L bu dn)) := by
  have g1 := Gr.alloc w (.cells #[.slice ta tn tc, .slice ca cn cc] 25)
  have c0 := cell_new (w := w) (t := 25) (cs := #[.slice ta tn tc, .slice ca cn cc]) (j := 0) rfl
  have c1 := cell_new (w := w) (t := 25) (cs := #[.slice ta tn tc, .slice ca cn cc]) (j := 1) rfl
  obtain ⟨w1, hw1⟩ : ∃ w1, w.alloc (.cells #[.slice ta tn tc, .slice ca cn cc] 25) = w1 := ⟨_, rfl⟩
  rw [hw1] at g1 c0 c1
  have HC := Lib.hid (checkPlan2_any ta ca a pa tn tc cn cc n c pn pc f xs L bu w1 (hf.gr g1) (hx.gr g1) (hL.gr g1))
  by_cases he : (cpR f xs L bu).2 = 0
  · have heb : ((cpR f xs L bu).2 != 0) = false := by simp [he]
    have HE : Hid (backE f xs L bu dn = (if withinB dn 0 L.length then 0 else 1)) := Lib.hid (by unfold backE; rw [if_pos he])
    have hpl := cpR_pl he
    have HPL := Lib.hid hpl
    have hn1 : 0 < n := by have := hpl.ok.n1; have := hpl.a.len; have := hx.len; omega
    have hn6 : n ≤ 6 := by have := hpl.ok.n6; have := hpl.a.len; have := hx.len; omega
    have hp64 : pn ≤ 64 := by have := hpl.n64; have := hL.len; omega
    have hPN := Lib.hid hL.len
    clear he hpl
    cases hb : withinB dn 0 pn with
    | false =>
      have HP : Hid (backE f xs L bu dn = 1 ∧ backV f xs L bu dn = []) := Lib.hid (by
        have : backE f xs L bu dn = 1 := by rw [HE.out, hL.len, hb]; rfl
        exact ⟨this, by unfold backV; rw [this]; rfl⟩)
      have HWI := Lib.hid (show ∀ W, Calls Try.prog 63 #[.int .i64 dn, .int .i64 0, .int .i64 pn] W fun e w' => e = .returned (.bool false) ∧ W = w' from fun W => hb ▸ within2_any dn 0 pn W)
      clear hb
      go_enter Try.func33, Try.ntmps33
      go_wp2_with fail
      refine HC.out.mono ?_
      rintro e w3 ⟨rfl, g3⟩
      go_wp2_with fail
      refine (HWI.out _).mono ?_
      rintro e w' ⟨rfl, rfl⟩
      go_wp2_with fail
      go_ret2
      exact ⟨none, 0, 0, by rw [HP.out.1]; rfl, by rw [HP.out.2]; exact RowsAt.nil _, g1.trans g3, Nat.le_refl _⟩
    | true =>
      obtain ⟨d, rfl, hdp⟩ : ∃ d : Nat, dn = d ∧ d ≤ pn := by
        simp [withinB] at hb
        exact ⟨dn.toNat, by omega, by omega⟩
      have HP : Hid (backE f xs L bu d = 0 ∧ backV f xs L bu d = bk xs L d) := Lib.hid (by
        have : backE f xs L bu d = 0 := by rw [HE.out, hL.len, hb]; rfl
        exact ⟨this, by unfold backV; rw [this]; rfl⟩)
      have HWI := Lib.hid (show ∀ W, Calls Try.prog 63 #[.int .i64 d, .int .i64 0, .int .i64 pn] W fun e w' => e = .returned (.bool true) ∧ W = w' from fun W => hb ▸ within2_any d 0 pn W)
      clear hb HE
      go_enter Try.func33, Try.ntmps33
      go_wp2_with fail
      refine HC.out.mono ?_
      rintro e w3 ⟨rfl, g3⟩
      have G3 := g1.trans g3
      have hx3 := hx.gr G3
      have hL3 := hL.gr G3
      clear hw1 c0 c1 HC g1 g3
      go_wp2_with fail
      refine (HWI.out _).mono ?_
      rintro e w' ⟨rfl, rfl⟩
      clear HWI
      go_wp2_with fail
      go_loopw [14, 15] (fun o i wr => ∃ (k : Nat) (Lo : List (List Int)), k ≤ d ∧ (k = 0 → d = 0) ∧ i = .int .i64 ((k : Int) - 2) ∧ Gr w3 wr ∧ OutR wr w3.heap.size o Lo ∧ Lo.length = d - k ∧ Hid (Lo ++ bk xs L k = bk xs L d)) (fun _ i _ => (intOf i + 1).toNat)
      case atStart => exact ⟨d, [], Nat.le_refl _, fun h => h, rfl, Gr.refl _, OutR.nil _ _, by simp, Lib.hid rfl⟩
      case round =>
        obtain ⟨k, Lo, hk, hk0, rfl, gr, hO, hlo, HT⟩ := hrel
        match k with
        | 0 =>
          obtain rfl : d = 0 := hk0 rfl
          have hz : (((0 : Nat) : Int) - 2) = -2 := rfl
          rw [hz]
          have HP0 : Hid (backE f xs L bu 0 = 0 ∧ backV f xs L bu 0 = bk xs L 0) := Lib.hid (by have := HP.out; simpa using this)
          have HF : Hid (Lo = backV f xs L bu 0) := Lib.hid (by rw [HP0.out.2, ← HT.out]; simp [bk])
          have hd0 : ¬ (0 : Int) < ((0 : Nat) : Int) := by omega
          clear hz hk0
          go_wp2_with fail
          go_ret2
          rw [← HF.out, HP0.out.1]
          exact hO.post (G3.trans gr) (by omega)
        | 1 =>
          have hz : (((1 : Nat) : Int) - 2) = -1 := rfl
          rw [hz]
          have hd0 : (0 : Int) < (d : Int) := by omega
          have HF : Hid (Lo ++ [xs] = backV f xs L bu d) := Lib.hid (by rw [HP.out.2, ← HT.out]; simp [bk, pAt])
          have hxr := hx3.gr gr
          clear hz hk0
          go_wp2_with (first | (at_builtin; refine wpList_copy rfl rfl rfl rfl hxr hn1 (by omega) ?_; intro g8 gc w9 hgi hg3 hge9 hg9; have G9 := gr.trans hg9; have hO9 := hO.gr (hg9.allocR (.cells #[.slice (some ⟨g8, 0, none⟩) n gc] 26)); have hy9 := hgi.gr (Gr.alloc w9 (.cells #[.slice (some ⟨g8, 0, none⟩) n gc] 26)); have h39 := hg3.gr (Gr.alloc w9 (.cells #[.slice (some ⟨g8, 0, none⟩) n gc] 26)); have G10 := G9.allocR (.cells #[.slice (some ⟨g8, 0, none⟩) n gc] 26); have hg10 := heap_alloc_new w9 (.cells #[.slice (some ⟨g8, 0, none⟩) n gc] 26); clear hgi hg3 hg9) | (at_builtin; refine wpList_push rfl rfl rfl rfl hg10 hO9 G10 hy9 h39 (by omega) ?_; intro v' w11 hO11 G11 _))
          clear hO9 hy9 h39 G10 hg10
          go_wp2_with fail
          go_ret2
          rw [← HF.out, HP.out.1]
          exact hO11.post (G3.trans G11) (by simp; omega)
        | m + 2 =>
          have hz : (((m + 2 : Nat) : Int) - 2) = (m : Int) := by omega
          rw [hz]
          obtain ⟨pd, qa, qn, qc, rfl, hpb, hpcell, hqi⟩ := (hL3.gr gr).at (j := m) (by omega)
          have hqv : (L[m]?.getD []) = pAt xs L (m + 1) := by simp [pAt]
          rw [hqv] at hqi
          have hqn : qn = n := by
            have := (HPL.out.at (k := m + 1) (by have := hPN.out; omega)).len
            have := HPL.out.a.len; have := hx.len; have := hqi.len; omega
          subst hqn
          have HT2 : Hid ((Lo ++ [pAt xs L (m + 1)]) ++ bk xs L (m + 1) = bk xs L d) := Lib.hid (by rw [← HT.out]; simp [bk])
          generalize pAt xs L (m + 1) = q at *
          have hm1 : (((m + 1 : Nat) : Int) - 2) = (m : Int) - 1 := by omega
          have HM1 := Lib.hid hm1
          clear hqv hz hk0 hm1
          go_wp2_with (first | (at_builtin; refine wpList_copy rfl rfl rfl rfl hqi hn1 (by omega) ?_; intro g8 gc w9 hgi hg3 hge9 hg9; have G9 := gr.trans hg9; have hO9 := hO.gr (hg9.allocR (.cells #[.slice (some ⟨g8, 0, none⟩) qn gc] 26)); have hy9 := hgi.gr (Gr.alloc w9 (.cells #[.slice (some ⟨g8, 0, none⟩) qn gc] 26)); have h39 := hg3.gr (Gr.alloc w9 (.cells #[.slice (some ⟨g8, 0, none⟩) qn gc] 26)); have G10 := G9.allocR (.cells #[.slice (some ⟨g8, 0, none⟩) qn gc] 26); have hg10 := heap_alloc_new w9 (.cells #[.slice (some ⟨g8, 0, none⟩) qn gc] 26); clear hgi hg3 hg9) | (at_builtin; refine wpList_push rfl rfl rfl rfl hg10 hO9 G10 hy9 h39 (by omega) ?_; intro v' w11 hO11 G11 _))
          clear hO9 hy9 h39 G10 hg10
          go_wp2_with fail
          go_roundw
          case rel => exact ⟨m + 1, Lo ++ [q], by omega, fun h => by omega, by rw [HM1.out], G11, hO11, by simp only [List.length_append, List.length_singleton, hlo]; omega, HT2⟩
          case measure => simp [intOf] <;> omega
  · have heb : ((cpR f xs L bu).2 != 0) = true := by simp [he]
    have HP : Hid (backE f xs L bu dn = (cpR f xs L bu).2 ∧ backV f xs L bu dn = []) := Lib.hid (by
      have : backE f xs L bu dn = (cpR f xs L bu).2 := by unfold backE; rw [if_neg he]
      exact ⟨this, by unfold backV; rw [this, if_neg he]⟩)
    clear he
    go_enter Try.func33, Try.ntmps33
    go_wp2_with fail
    refine HC.out.mono ?_
    rintro e w3 ⟨rfl, g3⟩
    go_wp2_with fail
    go_ret2
    exact ⟨none, 0, 0, by rw [HP.out.1]; rfl, by rw [HP.out.2]; exact RowsAt.nil _, g1.trans g3, Nat.le_refl _⟩
end
section
open Go.RowKit

theorem Try.info46 : (Try.prog.info? 46).map (fun i => (i.zero, i.size, i.bytes)) = some (some (.agg #[.int .i64 0, .int .i64 0, .string ⟨#[]⟩, .int .i64 0]), 4, 40) := by kernel_rfl
/-- a packet -/
structure Pk where
  c : Int
  v : Int
  data : ByteArray
  tg : Int
instance : Inhabited Pk := ⟨⟨0, 0, ⟨#[]⟩, 0⟩⟩
def Pk.val (p : Pk) : Value := .agg #[.int .i64 p.c, .int .i64 p.v, .string p.data, .int .i64 p.tg]

def PkAt (w : World) (a : Option Addr) (n : Nat) (P : List Pk) : Prop :=
  P.length = n ∧ n < 1152921504606846976 ∧ ∀ j, j < n → ∃ ad, a = some ad ∧ ad.block < w.heap.size ∧ (P[j]?.getD default).data.size < 1152921504606846976 ∧
    w.cell? (ad.add (j * 4)) = some (.int .i64 (P[j]?.getD default).c) ∧ w.cell? ⟨(ad.add (j * 4)).block, (ad.add (j * 4)).off + 1, none⟩ = some (.int .i64 (P[j]?.getD default).v) ∧
    w.cell? ⟨(ad.add (j * 4)).block, (ad.add (j * 4)).off + 2, none⟩ = some (.string (P[j]?.getD default).data) ∧ w.cell? ⟨(ad.add (j * 4)).block, (ad.add (j * 4)).off + 3, none⟩ = some (.int .i64 (P[j]?.getD default).tg)
theorem PkAt.len {w : World} {a : Option Addr} {n : Nat} {P : List Pk} (h : PkAt w a n P) : P.length = n := h.1
theorem PkAt.lt {w : World} {a : Option Addr} {n : Nat} {P : List Pk} (h : PkAt w a n P) : n < 1152921504606846976 := h.2.1
theorem PkAt.at {w : World} {a : Option Addr} {n : Nat} {P : List Pk} (h : PkAt w a n P) {j : Nat} (hj : j < n) : ∃ ad, a = some ad ∧ ad.block < w.heap.size ∧ (P[j]?.getD default).data.size < 1152921504606846976 ∧
    w.cell? (ad.add (j * 4)) = some (.int .i64 (P[j]?.getD default).c) ∧ w.cell? ⟨(ad.add (j * 4)).block, (ad.add (j * 4)).off + 1, none⟩ = some (.int .i64 (P[j]?.getD default).v) ∧
    w.cell? ⟨(ad.add (j * 4)).block, (ad.add (j * 4)).off + 2, none⟩ = some (.string (P[j]?.getD default).data) ∧ w.cell? ⟨(ad.add (j * 4)).block, (ad.add (j * 4)).off + 3, none⟩ = some (.int .i64 (P[j]?.getD default).tg) := h.2.2 j hj
theorem PkAt.gr {w w' : World} {a : Option Addr} {n : Nat} {P : List Pk} (h : PkAt w a n P) (g : Gr w w') : PkAt w' a n P :=
  ⟨h.1, h.2.1, fun j hj => by
    obtain ⟨ad, e, hb, hd, h0, h1, h2, h3⟩ := h.2.2 j hj
    exact ⟨ad, e, Nat.lt_of_lt_of_le hb g.size, hd, (g.cell (lt_cell h0)).trans h0, (g.cell (lt_cell h1)).trans h1, (g.cell (lt_cell h2)).trans h2, (g.cell (lt_cell h3)).trans h3⟩⟩
theorem PkAt.take {w : World} {a : Option Addr} {n : Nat} {P : List Pk} (h : PkAt w a n P) {d : Nat} (hd : d ≤ n) : PkAt w a d (P.take d) := by
  refine ⟨by have := h.len; simp; omega, by have := h.lt; omega, fun j hj => ?_⟩
  rw [List.getElem?_take_of_lt hj]
  exact h.at (j := j) (by omega)

/-- a block of the call's own that begins with these numbers -/
def OwnS (w : World) (g n : Nat) (xs : List Int) : Prop := xs.length = n ∧ n < 1152921504606846976 ∧ ∃ rest : List Value, w.heap[g]? = some (.cells (xs.map (Value.int .i64) ++ rest).toArray 3 (0, 0))
theorem OwnS.gr {w w' : World} {g n : Nat} {xs : List Int} (h : OwnS w g n xs) (k : Gr w w') : OwnS w' g n xs := by
  obtain ⟨h1, h2, rest, h3⟩ := h
  refine ⟨h1, h2, rest, ?_⟩
  have hlt := (Array.getElem?_eq_some_iff.1 h3).1
  have := (k.only (fun _ => False)).block g hlt (fun h => h)
  rw [this]; exact h3
theorem addr_add0 (g j : Nat) : (⟨g, 0, none⟩ : Addr).add j = ⟨g, j, none⟩ := by
  unfold Addr.add; split
  · subst_vars; rfl
  · simp
theorem OwnS.ints {w : World} {g n : Nat} {xs : List Int} (h : OwnS w g n xs) : Ints w (some ⟨g, 0, none⟩) n xs := by
  obtain ⟨h1, h2, rest, h3⟩ := h
  refine ⟨h1, h2, fun j hj => ⟨_, rfl, (Array.getElem?_eq_some_iff.1 h3).1, ?_⟩⟩
  rw [addr_add0]
  refine cell_at h3 ?_
  have hj1 : j < xs.length := by omega
  simp [List.getElem?_append, hj1]
theorem OwnS.lt {w : World} {g n : Nat} {xs : List Int} (h : OwnS w g n xs) : g < w.heap.size := by
  obtain ⟨_, _, rest, h3⟩ := h
  exact (Array.getElem?_eq_some_iff.1 h3).1
theorem OwnS.free {w : World} {g n : Nat} {xs : List Int} (h : OwnS w g n xs) (j : Nat) : w.frozen? ⟨g, j, none⟩ = false := by
  obtain ⟨_, _, rest, h3⟩ := h
  unfold World.frozen?
  simp [h3]
theorem OwnS.cell {w : World} {g n : Nat} {xs : List Int} (h : OwnS w g n xs) {j : Nat} (hj : j < n) : w.cell? ⟨g, j, none⟩ = some (.int .i64 (xs[j]?.getD 0)) := by
  obtain ⟨ad, e, _, hc⟩ := h.ints.at hj
  cases e
  rw [addr_add0] at hc; exact hc
theorem OwnS.set {w : World} {g n : Nat} {xs : List Int} (h : OwnS w g n xs) {j : Nat} (hj : j < n) (x : Int) : OwnS (w.setCell ⟨g, j, none⟩ (.int .i64 x)) g n (xs.set j x) := by
  obtain ⟨h1, h2, rest, h3⟩ := h
  refine ⟨by simp [h1], h2, rest, ?_⟩
  have hj1 : j < xs.length := by omega
  rw [heap_setCell_same w g j _ 3 _ h3]
  congr 2
  simp [List.set_append, hj1, List.map_set]

/-- Install: the rounds. done: the packets before, r: the rest, cur: the state so far -/
def instL (f : Fl) (se : Int) (s : List Int) : List Pk → List Pk → List Int → Int × Int × List Int
  | _, [], cur => (0, 0, cur)
  | done, p :: r, cur => if acceptE f se p.c p.v p.data p.tg = 0 then (if done.any (fun q => q.c == p.c) then (done.length, 1, []) else if p.v ≤ s[p.c.toNat]?.getD 0 then (done.length, 112, []) else instL f se s (done ++ [p]) r (cur.set p.c.toNat p.v)) else (done.length, acceptE f se p.c p.v p.data p.tg, [])
/-- what Install returns: the state, the packet, the error -/
def instR (f : Fl) (se : Int) (s : List Int) (P : List Pk) : List Int × Int × Int :=
  if statesE f [s] = 0 then (if withinB P.length 1 f.times.length then (if (instL f se s [] P s).2.1 = 0 then (if worksB f s && worksB f (instL f se s [] P s).2.2 then ((instL f se s [] P s).2.2, 0, 0) else ([], 0, 111)) else ([], (instL f se s [] P s).1, (instL f se s [] P s).2.1)) else ([], 0, 1)) else ([], 0, statesE f [s])
/-- what a state's function returns -/
def InstPost (w : World) (r : List Int × Int × Int) (e : Ending) (w' : World) : Prop := ∃ a n c, e = .returned (.tuple #[.slice a n c, .int .i64 r.2.1, .int .i64 r.2.2]) ∧ Ints w' a n r.1 ∧ Gr w w'

theorem anyP_hit {l : List Pk} {p : Pk → Bool} {k : Nat} (hk : k < l.length) (h : p (l[k]?.getD default) = true) : l.any p = true := by
  rw [List.any_eq_true]; exact ⟨l[k], List.getElem_mem hk, by simpa [hk] using h⟩
theorem anyP_none {l : List Pk} {p : Pk → Bool} (h : ∀ j, j < l.length → p (l[j]?.getD default) = false) : l.any p = false := by
  rw [List.any_eq_false]; intro x hx
  obtain ⟨j, hj, rfl⟩ := List.getElem_of_mem hx
  have := h j hj
  simpa [hj] using this

set_option maxHeartbeats 1000000 in
theorem inst1_any (p : Pk) (B : Nat) (x : Int) (w : World) (hc : w.cell? ⟨B, 0, none⟩ = some (.int .i64 x)) :
    Calls Try.prog 74 #[.agg #[.int .i64 p.c, .int .i64 p.v, .string p.data, .int .i64 p.tg], .pointer (some ⟨B, 0, none⟩)] w fun e w' => e = .returned (.bool (p.c == x)) ∧ Gr w w' := by
  have hg := Gr.alloc w (.cells #[.int .i64 p.c, .int .i64 p.v, .string p.data, .int .i64 p.tg] 46)
  have hc1 := (hg.cell (lt_cell hc)).trans hc
  go_enter Try.func74, Try.ntmps74
  go_wp2
  go_ret
  exact ⟨rfl, hg⟩

set_option maxHeartbeats 1000000 in
theorem indexFunc74 (a : Option Addr) (n c B : Nat) (P : List Pk) (x : Int) (w : World) (hP : PkAt w a n P) (hc : w.cell? ⟨B, 0, none⟩ = some (.int .i64 x)) :
    Calls Try.prog 94 #[.slice a n c, .func (.func 74) #[] #[.pointer (some ⟨B, 0, none⟩)]] w (IdxPost (P.any fun q => q.c == x) w) := by
  have hn := hP.lt
  go_enter Try.func94, Try.ntmps94
  go_wp2
  go_loopw [8] (fun i wr => ∃ k : Nat, k ≤ n ∧ i = .int .i64 k ∧ Gr w wr ∧ Hid (∀ j, j < k → ((P[j]?.getD default).c == x) = false)) (fun i _ => n - (intOf i).toNat)
  case atStart => exact ⟨0, Nat.zero_le _, rfl, Gr.refl _, Lib.hid (by intros; omega)⟩
  case round =>
    obtain ⟨k, hk, rfl, hg, hall⟩ := hrel
    by_cases hlt : k < n
    · obtain ⟨aa, rfl, hab, hds, c0, c1, c2, c3⟩ := (hP.gr hg).at hlt
      have hcon := inst1_any (P[k]?.getD default) B x wr ((hg.cell (lt_cell hc)).trans hc)
      have HCON := Lib.hid hcon
      clear hcon
      cases hb : ((P[k]?.getD default).c == x) with
      | true =>
        rw [hb] at HCON
        go_wp2_with (go_at_call 74; refine HCON.out.mono ?_; rintro e w' ⟨rfl, hg2⟩)
        go_ret
        exact ⟨k, rfl, by rw [anyP_hit (p := fun q => q.c == x) (by rw [hP.len]; exact hlt) hb]; simp, hg.trans hg2⟩
      | false =>
        rw [hb] at HCON
        go_wp2_with (go_at_call 74; refine HCON.out.mono ?_; rintro e w' ⟨rfl, hg2⟩)
        go_roundw
        case rel => exact ⟨k + 1, by omega, by go_num, hg.trans hg2, Lib.hid (fun j hj => by
          by_cases e : j = k
          · subst e; exact hb
          · exact hall.out j (by omega))⟩
        case measure => simp [intOf]; omega
    · obtain rfl : k = n := by omega
      go_wp2
      go_ret
      exact ⟨-1, rfl, by rw [anyP_none (p := fun q => q.c == x) (fun j hj => hall.out j (by rw [← hP.len]; exact hj))]; simp, hg⟩

theorem run_take53 (w : World) (pa : Option Addr) (n c k : Nat) (hk : k ≤ c) : (Instr.slice 53 (.slice pa n c) none (some (.int .i64 k)) none).run Try.prog w = .ok (.slice pa k c) w := by
  have hu := Try.underlying53
  have ha : ∀ a : Addr, a.add 0 = a := fun a => by unfold Addr.add; rfl
  have hm : pa.map (fun a => a.add 0) = pa := by cases pa <;> simp [ha]
  have h1 : (0 : Int) ≤ k ∧ (k : Int) ≤ c := by omega
  obtain ⟨i0, hi, hz0, hz1, hz2⟩ := info_parts Try.info46
  simp [Instr.slice, Instr.sliceBounds, Instr.sliceBound, underlying, hu, sizeOf, hi, hz1, asIntOf, h1, hm, go_sem]
  intro h; omega

theorem containsFunc74 (a : Option Addr) (n c B : Nat) (P : List Pk) (x : Int) (w : World) (hP : PkAt w a n P) (hc : w.cell? ⟨B, 0, none⟩ = some (.int .i64 x)) :
    Calls Try.prog 73 #[.slice a n c, .func (.func 74) #[] #[.pointer (some ⟨B, 0, none⟩)]] w fun e w' => e = .returned (.bool (P.any fun q => q.c == x)) ∧ Gr w w' := by
  go_enter Try.func73, Try.ntmps73
  go_wp2_with (go_at_call 94; refine (indexFunc74 _ _ _ _ _ _ _ hP hc).mono ?_; rintro e w' ⟨r, rfl, hr, hg⟩)
  go_ret
  exact ⟨rfl, by assumption⟩
theorem own_of_row {w : World} {base : Nat} {v : Value} {n : Nat} {xs : List Int} (hl : xs.length = n) (hn : n < 1152921504606846976) (h : w.ownsRow base 3 1 v n (xs.map (Value.int .i64))) (h0 : 0 < n) :
    ∃ g c, v = .slice (some ⟨g, 0, none⟩) n c ∧ base ≤ g ∧ n ≤ c ∧ OwnS w g n xs := by
  rcases h.2 with ⟨_, h1⟩ | ⟨g, cap, cur, rfl, hb, hg, hnc, _, _, ht⟩
  · omega
  · refine ⟨g, cap, rfl, hb, hnc, hl, hn, cur.toList.drop (n * 1), ?_⟩
    rw [← ht, List.take_append_drop]; exact hg
def NewOwn (w : World) (n : Nat) (xs : List Int) (e : Ending) (w' : World) : Prop := ∃ g c, e = .returned (.slice (some ⟨g, 0, none⟩) n c) ∧ w.heap.size ≤ g ∧ n ≤ c ∧ OwnS w' g n xs ∧ Gr w w'
set_option maxHeartbeats 1000000 in
theorem cloneOwn_any (a : Option Addr) (n c : Nat) (xs : List Int) (w : World) (hx : Ints w a n xs) (h0 : 0 < n) (hn : n ≤ 1000000) : Calls Try.prog 51 #[.slice a n c] w (NewOwn w n xs) := by
  obtain ⟨ad, rfl, hab, _⟩ := hx.at h0
  obtain ⟨i0, hi, hz0, hz1, hz2⟩ := info_parts Try.info3
  have hnil := fun w a n c => Lib.run_eql_slice_nil (P := Try.prog) w 26 3 a n c 0 0 Try.underlying26
  have hg := Gr.alloc w (.cells #[] 3)
  have hxg := hx.gr hg
  have hown : (w.alloc (.cells #[] 3)).ownsRow w.heap.size 3 1 (.slice (some ⟨w.heap.size, 0, none⟩) 0 0) 0 [] := ⟨rfl, .inr ⟨w.heap.size, 0, #[], rfl, Nat.le_refl _, heap_alloc_new w _, Nat.le_refl _, by unfold maxLen; omega, rfl, rfl⟩⟩
  have HOWN := Lib.hid hown
  clear hown
  go_enter Try.func51, Try.ntmps51
  go_wp2_with (at_builtin; refine wpList_append_own _ rfl _ _ 26 rfl w.heap.size 3 i0 (.int .i64 0) 1 8 Try.underlying26 hi hz0 hz1 hz2 rfl (by decide) _ _ _ rfl HOWN.out ad n c (xs.map (Value.int .i64)) rfl (by rw [List.length_map, hx.len, Nat.mul_one]) hxg.cells (ints_one xs) (by unfold maxLen; omega) (by omega) (by simp) ?_; intro v' w1 hown' hgrow _)
  have hown2 : w1.ownsRow w.heap.size 3 1 v' n (xs.map (Value.int .i64)) := by simpa using hown'
  obtain ⟨g, c', rfl, hge, hnc, how⟩ := own_of_row hx.len (by omega) hown2 h0
  go_wp2
  go_ret
  have hgr : Gr w w1 := Below.grown hg hgrow (Gr.size hg) (fun k hk => by cases hk; exact Nat.le_refl _)
  exact ⟨g, c', rfl, hge, hnc, how, hgr⟩
/-- 'append([]int(nil), xs...)' of some numbers: a block of the call's own -/
theorem wpList_copyOwn {ops : Array Oper} {rest : List Oper} {o : Oper} {a : Act} {W : World} {Q : Exit → Act → World → Prop} (hgd : o.guard = none) {s x : Operand} {sa : Option Addr} {n c : Nat} {y : List Int}
    (ho : o.op = .call { callee := .builtin .append, args := #[s, x], argTypes := #[26, 26] }) (hs : a.eval s = .slice none 0 0) (hx : a.eval x = .slice sa n c) (hy : Ints W sa n y) (h0 : 0 < n) (hn : n ≤ 1000000)
    (h : ∀ g c' w', OwnS w' g n y → n ≤ c' → W.heap.size ≤ g → Gr W w' → wpList Try.prog ops Q rest (a.put o.dst (.slice (some ⟨g, 0, none⟩) n c')) w') : wpList Try.prog ops Q (o :: rest) a W := by
  refine wpList_plain hgd fun K hK => ?_
  obtain ⟨ad, rfl, hab, _⟩ := hy.at h0
  obtain ⟨i0, hi, hz0, hz1, hz2⟩ := info_parts Try.info3
  refine wp_append_own W s x 26 ho W.heap.size 3 i0 (.int .i64 0) 1 8 Try.underlying26 hi hz0 hz1 hz2 rfl (by decide) _ 0 [] hs (World.ownsRow_nil W _ 3 1) ad n c (y.map (Value.int .i64)) hx (by rw [List.length_map, hy.len, Nat.mul_one]) hy.cells (ints_one y) (by unfold maxLen; omega) (by omega) (Nat.le_refl _) (fun v' w' hown' hgrow _ => ?_)
  have hown2 : w'.ownsRow W.heap.size 3 1 v' n (y.map (Value.int .i64)) := by simpa using hown'
  obtain ⟨g, c', rfl, hge, hnc, how⟩ := own_of_row hy.len (by omega) hown2 h0
  exact hK _ _ (h g c' w' how hnc hge ((only_grown hgrow).gr (fun i hi e => by simp [Value.ownBlock] at e)))
end
section
open Go.RowKit

theorem Try.mk26 (n : Nat) (w : World) (hn : n ≤ 6) : (Instr.makeSlice 26 (.int .i64 (n : Int)) (.int .i64 (n : Int))).run Try.prog w = .ok (.slice (some ⟨w.heap.size, 0, none⟩) n n) (w.alloc (.cells (List.replicate n (.int .i64 0)).toArray 3)) := by
  obtain rfl | rfl | rfl | rfl | rfl | rfl | rfl : n = 0 ∨ n = 1 ∨ n = 2 ∨ n = 3 ∨ n = 4 ∨ n = 5 ∨ n = 6 := by omega
  all_goals kernel_rfl
theorem zeros_new {f : Fl} {n : Nat} (w : World) (hl : f.times.length = n) (h6 : n ≤ 6) : Ints (w.alloc (.cells (List.replicate n (.int .i64 0)).toArray 3)) (some ⟨w.heap.size, 0, none⟩) n (zeros f) := by
  subst hl
  refine ⟨by simp [zeros], by omega, fun j hj => ⟨⟨w.heap.size, 0, none⟩, rfl, by simp, ?_⟩⟩
  rw [addr_add0]
  exact cell_new (by simp [zeros, hj])
theorem newest_take {f : Fl} {n k : Nat} (hl : f.times.length = n) (hk : k < n) : (newestV f).take (k + 1) = (newestV f).take k ++ [(((f.times[k]?.getD []).length : Nat) : Int)] := by
  have h : k < (newestV f).length := by simp [newestV]; omega
  rw [List.take_succ_eq_append_getElem h]
  congr 2
  simp [newestV, show k < f.times.length by omega]
theorem newest_out {f : Fl} {n B : Nat} {w : World} {v : Value} {B' : Nat} (hB : B' ≤ B) (hO : OwnI w B v ((newestV f).take n)) (hl : f.times.length = n) (h6 : n ≤ 6) : (Y.MP.intsF B' n (newestV f)).p v w := by
  have e : (newestV f).take n = newestV f := by rw [List.take_of_length_le]; simp [newestV, hl]
  rw [e] at hO
  have hn : (newestV f).length = n := by simp [newestV, hl]
  have hN : ∀ ad k c, v = .slice (some ad) k c → B ≤ ad.block := fun ad k c e => by
    rcases hO.2 with ⟨e2, _⟩ | ⟨g, cap, cur, e2, h2, _⟩
    · rw [e2] at e; cases e
    · rw [e2] at e; injection e with e; injection e with e; subst e; exact h2
  obtain ⟨a, c, rfl, h, _⟩ := hO.ints (by omega)
  rw [hn] at h hN
  exact ⟨a, c, by rw [hn], h, fun ad e => by subst e; exact Nat.le_trans hB (hN ad _ _ rfl)⟩

set_option maxRecDepth 100000 in
set_option maxHeartbeats 400000 in
theorem oldest_any (B : Nat) (ta ca : Option Addr) (tn tc cn cc : Nat) (f : Fl) (w : World) (hok : FlOk f) (hf : FlAt w ta tn ca cn f) (hB : B ≤ w.heap.size) :
    Calls Try.prog 79 #[.agg #[.slice ta tn tc, .slice ca cn cc]] w fun e w' => ∃ v, e = .returned v ∧ (Y.MP.intsF B tn (zeros f)).p v w' ∧ Gr w w' := by
  have hl : f.times.length = tn := hf.t.len
  have h6 : tn ≤ 6 := by have := hok.n6; omega
  have G := Gr.refl w
  refine Y.calls 7 Try.func79 rfl rfl ?_
  intro ac F0
  have F : Fr ac 7 [(0, .agg #[.slice ta tn tc, .slice ca cn cc])] := F0.sub _ (by kernel_rfl)
  clear F0
  refine Y.seq ?_
  refine Y.lit (by kernel_rfl) ?_
  refine Y.pval F (X.w0 rfl) rfl (X.box rfl (F.ev 0 (.agg #[.slice ta tn tc, .slice ca cn cc]) (by kernel_rfl)) X.bx) ?_
  clear F ac
  intro ac F
  have g := Gr.alloc w (.cells #[.slice ta tn tc, .slice ca cn cc] 25)
  have hb := heap_alloc_new w (.cells #[.slice ta tn tc, .slice ca cn cc] 25)
  have hbl : w.heap.size < (w.alloc (.cells #[.slice ta tn tc, .slice ca cn cc] 25)).heap.size := by simp
  have hC2 : RCells (w.alloc (.cells #[.slice ta tn tc, .slice ca cn cc] 25)) [(⟨w.heap.size, 0, none⟩, .slice ta tn tc), (⟨w.heap.size, 1, none⟩, .slice ca cn cc)] := (RCells.nil w).box (b := w.heap.size) #[.slice ta tn tc, .slice ca cn cc] 25 rfl
  generalize w.alloc (.cells #[.slice ta tn tc, .slice ca cn cc] 25) = w3 at *
  replace G := G.trans g
  have hC := hC2
  clear hC2
  replace hf := hf.gr g
  clear g hb hbl
  refine Y.pval F (X.w0 rfl) rfl (X.assign rfl (X.kc (.slice none 0 0) rfl)) ?_
  clear F ac
  intro ac F
  refine Y.nil ?_
  replace F : Fr ac 7 [(0, .agg #[.slice ta tn tc, .slice ca cn cc]), (1, .pointer (some ⟨w.heap.size, 0, none⟩)), (2, .slice none 0 0)] := F.sub _ (by kernel_rfl)
  refine X.thenN ?_
  refine Y.seq ?_
  refine Y.lit (by kernel_rfl) ?_
  refine Y.pval F (X.w0 rfl) rfl (X.field rfl (F.ev 1 (.pointer (some ⟨w.heap.size, 0, none⟩)) (by kernel_rfl)) (X.fld Try.underlying25 rfl (Try.siz22 _) rfl rfl)) ?_
  clear F ac
  intro ac F
  refine Y.pval F (X.w0 rfl) rfl (X.load rfl (F.ev 3 (.pointer (some ⟨w.heap.size, 0, none⟩)) (by kernel_rfl)) (X.ld1 (Try.agg22 _) (hC.at 0 rfl))) ?_
  clear F ac
  intro ac F
  refine Y.pval F (X.w0 rfl) rfl (X.len1 Try.underlying22 rfl (F.ev 4 (.slice ta tn tc) (by kernel_rfl))) ?_
  clear F ac
  intro ac F
  refine Y.pval F (X.w0 rfl) rfl (Y.mk rfl (F.ev 5 (.int .i64 tn) (by kernel_rfl)) (F.ev 5 (.int .i64 tn) (by kernel_rfl)) (Try.mk26 tn _ (by omega))) ?_
  clear F ac
  intro ac F
  have g := Gr.alloc w3 (.cells (List.replicate tn (.int .i64 0)).toArray 3)
  have hI : Ints (w3.alloc (.cells (List.replicate tn (.int .i64 0)).toArray 3)) (some ⟨w3.heap.size, 0, none⟩) tn (zeros f) := zeros_new w3 hl h6
  have hN : Y.New B (some ⟨w3.heap.size, 0, none⟩) := fun ad e => by injection e with e; subst e; have := G.size; simp only; omega
  generalize w3.alloc (.cells (List.replicate tn (.int .i64 0)).toArray 3) = w4 at *
  replace G := G.trans g
  replace hC := hC.gr g
  replace hf := hf.gr g
  clear g
  refine Y.pval F (X.w0 rfl) rfl (X.assign rfl (F.ev 6 (.slice (some ⟨w3.heap.size, 0, none⟩) tn tn) (by kernel_rfl))) ?_
  clear F ac
  intro ac F
  refine Y.nil ?_
  replace F : Fr ac 7 [(0, .agg #[.slice ta tn tc, .slice ca cn cc]), (1, .pointer (some ⟨w.heap.size, 0, none⟩)), (2, .slice (some ⟨w3.heap.size, 0, none⟩) tn tn)] := F.sub _ (by kernel_rfl)
  refine X.thenN ?_
  refine Y.ret ?_
  exact Y.ret0 (v := .slice (some ⟨w3.heap.size, 0, none⟩) tn tn) F (Y.rs1 F rfl (by kernel_rfl)) ⟨_, rfl, ⟨_, _, rfl, hI, hN⟩, G⟩

set_option maxRecDepth 100000 in
set_option maxHeartbeats 400000 in
theorem newest_any (B : Nat) (ta ca : Option Addr) (tn tc cn cc : Nat) (f : Fl) (w : World) (hok : FlOk f) (hf : FlAt w ta tn ca cn f) (hB : B ≤ w.heap.size) :
    Calls Try.prog 80 #[.agg #[.slice ta tn tc, .slice ca cn cc]] w fun e w' => ∃ v, e = .returned v ∧ (Y.MP.intsF B tn (newestV f)).p v w' ∧ Gr w w' := by
  have hl : f.times.length = tn := hf.t.len
  have h6 : tn ≤ 6 := by have := hok.n6; omega
  have ht := hf.t
  have G := Gr.refl w
  refine Y.calls 19 Try.func80 rfl rfl ?_
  intro ac F0
  have F : Fr ac 19 [(0, .agg #[.slice ta tn tc, .slice ca cn cc])] := F0.sub _ (by kernel_rfl)
  clear F0
  refine Y.seq ?_
  refine Y.lit (by kernel_rfl) ?_
  refine Y.pval F (X.w0 rfl) rfl (X.box rfl (F.ev 0 (.agg #[.slice ta tn tc, .slice ca cn cc]) (by kernel_rfl)) X.bx) ?_
  clear F ac
  intro ac F
  have g := Gr.alloc w (.cells #[.slice ta tn tc, .slice ca cn cc] 25)
  have hb := heap_alloc_new w (.cells #[.slice ta tn tc, .slice ca cn cc] 25)
  have hbl : w.heap.size < (w.alloc (.cells #[.slice ta tn tc, .slice ca cn cc] 25)).heap.size := by simp
  have hC2 : RCells (w.alloc (.cells #[.slice ta tn tc, .slice ca cn cc] 25)) [(⟨w.heap.size, 0, none⟩, .slice ta tn tc), (⟨w.heap.size, 1, none⟩, .slice ca cn cc)] := (RCells.nil w).box (b := w.heap.size) #[.slice ta tn tc, .slice ca cn cc] 25 rfl
  generalize w.alloc (.cells #[.slice ta tn tc, .slice ca cn cc] 25) = w3 at *
  replace G := G.trans g
  have hC := hC2
  clear hC2
  replace hf := hf.gr g
  replace ht := ht.gr g
  clear g hb hbl
  refine Y.pval F (X.w0 rfl) rfl (X.assign rfl (X.kc (.slice none 0 0) rfl)) ?_
  clear F ac
  intro ac F
  refine Y.nil ?_
  replace F : Fr ac 19 [(0, .agg #[.slice ta tn tc, .slice ca cn cc]), (1, .pointer (some ⟨w.heap.size, 0, none⟩)), (2, .slice none 0 0)] := F.sub _ (by kernel_rfl)
  refine X.thenN ?_
  refine Y.seq ?_
  refine Y.seq ?_
  refine Y.lit (by kernel_rfl) ?_
  refine Y.pval F (X.w0 rfl) rfl (X.field rfl (F.ev 1 (.pointer (some ⟨w.heap.size, 0, none⟩)) (by kernel_rfl)) (X.fld Try.underlying25 rfl (Try.siz22 _) rfl rfl)) ?_
  clear F ac
  intro ac F
  refine Y.pval F (X.w0 rfl) rfl (X.load rfl (F.ev 5 (.pointer (some ⟨w.heap.size, 0, none⟩)) (by kernel_rfl)) (X.ld1 (Try.agg22 _) (hC.at 0 rfl))) ?_
  clear F ac
  intro ac F
  refine Y.pval F (X.w0 rfl) rfl (X.len1 Try.underlying22 rfl (F.ev 6 (.slice ta tn tc) (by kernel_rfl))) ?_
  clear F ac
  intro ac F
  refine Y.pval F (X.w0 rfl) rfl (X.move rfl (X.kc (.int .i64 0) rfl)) ?_
  clear F ac
  intro ac F
  refine Y.nil ?_
  replace F : Fr ac 19 [(0, .agg #[.slice ta tn tc, .slice ca cn cc]), (1, .pointer (some ⟨w.heap.size, 0, none⟩)), (2, .slice none 0 0), (6, .slice ta tn tc), (7, .int .i64 tn), (8, .int .i64 0)] := F.sub _ (by kernel_rfl)
  refine X.thenN ?_
  refine Y.block ?_
  have hfB := hf
  have htB := ht
  have hCB := hC
  have GB := G
  refine Y.loop (fun me_ ac wr => ∃ (k : Nat) (vv : Value), me_ = tn - k ∧ Gr w3 wr ∧ k ≤ tn ∧ OwnI wr w3.heap.size vv ((newestV f).take k) ∧ Fr ac 19 [(0, .agg #[.slice ta tn tc, .slice ca cn cc]), (1, .pointer (some ⟨w.heap.size, 0, none⟩)), (2, vv), (6, .slice ta tn tc), (7, .int .i64 tn), (8, .int .i64 k)]) _ ⟨0, _, rfl, Gr.refl _, Nat.zero_le _, OwnI.nil _ _, F.sub _ (by kernel_rfl)⟩ ?_
  clear F
  intro me_ ac w4 hI
  obtain ⟨k, vv, rfl, gr, hk, hO, F⟩ := hI
  replace G := GB.trans gr
  replace hC := hCB.gr gr
  replace hf := hfB.gr gr
  replace ht := htB.gr gr
  have GB_ := gr
  clear gr
  refine Y.seq ?_
  refine Y.lit (by kernel_rfl) ?_
  refine Y.pval F (X.w0 rfl) rfl (X.binop rfl (F.ev 8 (.int .i64 k) (by kernel_rfl)) (F.ev 7 (.int .i64 tn) (by kernel_rfl)) (X.lssI Try.underlying3 rfl)) ?_
  clear F ac
  intro ac F
  refine Y.nil ?_
  replace F : Fr ac 19 [(0, .agg #[.slice ta tn tc, .slice ca cn cc]), (1, .pointer (some ⟨w.heap.size, 0, none⟩)), (2, vv), (6, .slice ta tn tc), (7, .int .i64 tn), (8, .int .i64 k), (9, .bool (decide ((k : Int) < tn)))] := F.sub _ (by kernel_rfl)
  refine X.thenN ?_
  refine Y.seq ?_
  cases h5 : decide ((k : Int) < tn) with
  | false =>
    try rw [h5] at F
    have h5p : ¬ ((k : Int) < tn) := of_decide_eq_false h5
    obtain rfl : tn = k := by omega
    refine Y.condF (F.ev 9 (.bool false) (by kernel_rfl)) ?_
    refine Y.exit ?_
    refine X.thenX ?_
    refine X.thenX ?_
    refine X.blockX ?_
    refine X.thenN ?_
    refine Y.seq ?_
    refine Y.lit (by kernel_rfl) ?_
    refine Y.pval F (X.w0 rfl) rfl (X.move rfl (F.ev 2 (vv) (by kernel_rfl))) ?_
    clear F ac
    intro ac F
    refine Y.pval F (X.w0 rfl) rfl (X.assign rfl (F.ev 18 (vv) (by kernel_rfl))) ?_
    clear F ac
    intro ac F
    refine Y.nil ?_
    replace F : Fr ac 19 [(0, .agg #[.slice ta tn tc, .slice ca cn cc]), (1, .pointer (some ⟨w.heap.size, 0, none⟩)), (2, vv), (6, .slice ta tn tc), (7, .int .i64 tn), (8, .int .i64 tn), (9, .bool false)] := F.sub _ (by kernel_rfl)
    refine X.thenN ?_
    refine Y.ret ?_
    exact Y.ret0 (v := vv) F (Y.rs1 F rfl (by kernel_rfl)) ⟨_, rfl, newest_out (by have := GB.size; omega) hO hl (by omega), G⟩
  | true =>
    try rw [h5] at F
    have h5p : ((k : Int) < tn) := of_decide_eq_true h5
    have hk1 : k < tn := by omega
    refine Y.condT (F.ev 9 (.bool true) (by kernel_rfl)) ?_
    refine Y.skip ?_
    refine X.thenN ?_
    refine Y.seq ?_
    refine Y.block ?_
    refine Y.seq ?_
    refine Y.lit (by kernel_rfl) ?_
    obtain ⟨pd6, pa6, rn6, pq6, pe6, -, pc6, pi6⟩ := ht.at (j := k) (by omega)
    subst pe6
    replace hC : RCells w4 [(⟨w.heap.size, 0, none⟩, .slice (some pd6) tn tc), (⟨w.heap.size, 1, none⟩, .slice ca cn cc), (pd6.add k, .slice pa6 rn6 pq6)] := hC.append ((RCells.cons pc6 (RCells.nil _)))
    clear pc6
    refine Y.pval F (X.w0 rfl) rfl (X.index rfl (F.ev 6 (.slice (some pd6) tn tc) (by kernel_rfl)) (F.ev 8 (.int .i64 k) (by kernel_rfl)) (X.idx Try.underlying22 (Try.siz26 _) (by omega) (by omega) (by rw [Nat.mul_one]))) ?_
    clear F ac
    intro ac F
    refine Y.pval F (X.w0 rfl) rfl (X.load rfl (F.ev 10 (.pointer (some (pd6.add k))) (by kernel_rfl)) (X.ld1 (Try.agg26 _) (hC.at 2 rfl))) ?_
    clear F ac
    intro ac F
    refine Y.pval F (X.w0 rfl) rfl (X.assign rfl (F.ev 11 (.slice pa6 rn6 pq6) (by kernel_rfl))) ?_
    clear F ac
    intro ac F
    refine Y.nil ?_
    replace F : Fr ac 19 [(0, .agg #[.slice (some pd6) tn tc, .slice ca cn cc]), (1, .pointer (some ⟨w.heap.size, 0, none⟩)), (2, vv), (4, .slice pa6 rn6 pq6), (6, .slice (some pd6) tn tc), (7, .int .i64 tn), (8, .int .i64 k), (9, .bool true)] := F.sub _ (by kernel_rfl)
    refine X.thenN ?_
    refine Y.lit (by kernel_rfl) ?_
    refine Y.pval F (X.w0 rfl) rfl (X.move rfl (F.ev 2 (vv) (by kernel_rfl))) ?_
    clear F ac
    intro ac F
    refine Y.pval F (X.w0 rfl) rfl (X.move rfl (F.ev 4 (.slice pa6 rn6 pq6) (by kernel_rfl))) ?_
    clear F ac
    intro ac F
    refine Y.pval F (X.w0 rfl) rfl (X.len1 Try.underlying26 rfl (F.ev 13 (.slice pa6 rn6 pq6) (by kernel_rfl))) ?_
    clear F ac
    intro ac F
    refine Y.pval F (X.w0 rfl) rfl (X.bs rfl (X.b1 (F.ev 14 (.int .i64 rn6) (by kernel_rfl))) (Try.bs26a _ _)) ?_
    clear F ac
    intro ac F
    have g := Gr.alloc w4 (.cells #[.int .i64 rn6] 3)
    have hb := heap_alloc_new w4 (.cells #[.int .i64 rn6] 3)
    have hbl : w4.heap.size < (w4.alloc (.cells #[.int .i64 rn6] 3)).heap.size := by simp
    generalize w4.alloc (.cells #[.int .i64 rn6] 3) = w7 at *
    replace G := G.trans g
    replace hC := hC.gr g
    replace GB_ := GB_.trans g
    replace hf := hf.gr g
    replace ht := ht.gr g
    replace hO := hO.gr g
    replace pi6 := pi6.gr g
    have hbk := hb
    clear g hb hbl
    refine Y.ppushI rfl rfl (F.ev 12 (vv) (by kernel_rfl)) (F.ev 15 (.slice (some ⟨w4.heap.size, 0, none⟩) 1 1) (by kernel_rfl)) hbk hO GB_ (by rw [List.length_take]; omega) ?_
    intro v' w8 hO' GB'
    refine Y.pput F rfl ?_
    clear F ac
    intro ac F
    refine Y.pval F (X.w0 rfl) rfl (X.assign rfl (F.ev 16 (v') (by kernel_rfl))) ?_
    clear F ac
    intro ac F
    refine Y.nil ?_
    replace F : Fr ac 19 [(0, .agg #[.slice (some pd6) tn tc, .slice ca cn cc]), (1, .pointer (some ⟨w.heap.size, 0, none⟩)), (2, v'), (4, .slice pa6 rn6 pq6), (6, .slice (some pd6) tn tc), (7, .int .i64 tn), (8, .int .i64 k), (9, .bool true)] := F.sub _ (by kernel_rfl)
    refine X.blockN ?_
    refine X.thenN ?_
    refine Y.lit (by kernel_rfl) ?_
    refine Y.pval F (X.w0 rfl) rfl (X.binop rfl (F.ev 8 (.int .i64 k) (by kernel_rfl)) (X.kc (.int .i64 1) rfl) (X.addI Try.underlying3 rfl (by omega) (by omega))) ?_
    clear F ac
    intro ac F
    refine Y.pval F (X.w0 rfl) rfl (X.move rfl (F.ev 17 (.int .i64 ((k : Int) + 1)) (by kernel_rfl))) ?_
    clear F ac
    intro ac F
    refine Y.nil ?_
    replace F : Fr ac 19 [(0, .agg #[.slice (some pd6) tn tc, .slice ca cn cc]), (1, .pointer (some ⟨w.heap.size, 0, none⟩)), (2, v'), (4, .slice pa6 rn6 pq6), (6, .slice (some pd6) tn tc), (7, .int .i64 tn), (8, .int .i64 ((k : Int) + 1)), (9, .bool true)] := F.sub _ (by kernel_rfl)
    refine X.thenN ?_
    refine ⟨_, ?_, k + 1, v', rfl, GB', by omega, by rw [newest_take hl hk1, pi6.len]; exact hO', F.sub _ (by kernel_rfl)⟩
    omega
end
section
open Go.RowKit

def cmpL : List Int → List Int → Int
  | [], [] => 0
  | [], _ :: _ => -1
  | _ :: _, [] => 1
  | x :: xs, y :: ys => if cmpI x y = 0 then cmpL xs ys else cmpI x y
theorem drop_cons0 {xs : List Int} {k : Nat} (h : k < xs.length) : xs.drop k = xs[k]?.getD 0 :: xs.drop (k + 1) := by
  rw [List.drop_eq_getElem_cons h]; simp [h]
theorem cmp_1 {xs ys : List Int} {k : Nat} (h : k < xs.length) (h2 : ys.length ≤ k) : cmpL (xs.drop k) (ys.drop k) = 1 := by
  rw [drop_cons0 h, List.drop_eq_nil_of_le h2]; rfl
theorem cmp_ne {xs ys : List Int} {k : Nat} (h : k < xs.length) (h2 : k < ys.length) (h3 : ¬ (cmpI (xs[k]?.getD 0) (ys[k]?.getD 0) : Int) = 0) : cmpL (xs.drop k) (ys.drop k) = cmpI (xs[k]?.getD 0) (ys[k]?.getD 0) := by
  rw [drop_cons0 h, drop_cons0 h2]; simp only [cmpL, if_neg h3]
theorem cmp_eq {xs ys : List Int} {k : Nat} (h : k < xs.length) (h2 : k < ys.length) (h3 : (cmpI (xs[k]?.getD 0) (ys[k]?.getD 0) : Int) = 0) : cmpL (xs.drop k) (ys.drop k) = cmpL (xs.drop (k + 1)) (ys.drop (k + 1)) := by
  rw [drop_cons0 h, drop_cons0 h2]; simp only [cmpL, if_pos h3]
theorem cmp_lt {xs ys : List Int} {k : Nat} (h : k = xs.length) (h2 : k < ys.length) : cmpL (xs.drop k) (ys.drop k) = -1 := by
  rw [drop_cons0 h2, List.drop_eq_nil_of_le (by omega)]; rfl
theorem cmp_0 {xs ys : List Int} {k : Nat} (h : k = xs.length) (h2 : ys.length ≤ k) : cmpL (xs.drop k) (ys.drop k) = 0 := by
  rw [List.drop_eq_nil_of_le h2, List.drop_eq_nil_of_le (by omega)]; rfl

set_option maxRecDepth 100000 in
set_option maxHeartbeats 400000 in
theorem cmpL_any (a b : Option Addr) (n c m d : Nat) (xs ys : List Int) (w : World) (hx : Ints w a n xs) (hy : Ints w b m ys) :
    Calls Try.prog 85 #[.slice a n c, .slice b m d] w fun e w' => e = .returned (.int .i64 (cmpL xs ys)) ∧ Gr w w' := by
  have G := Gr.refl w
  refine X.calls 36 Try.func85 rfl rfl ?_
  intro ac F0
  have F : Fr ac 36 [(0, .slice a n c), (1, .slice b m d)] := F0.sub _ (by kernel_rfl)
  clear F0
  refine wp_seq ?_
  refine wp_region_lit ?_
  refine X.pval F (X.w0 rfl) rfl (X.assign rfl (X.kc (.int .i64 0) rfl)) ?_
  clear F ac
  intro ac F
  refine wpList_nil ?_
  replace F : Fr ac 36 [(0, .slice a n c), (1, .slice b m d), (4, .int .i64 0)] := F.sub _ (by kernel_rfl)
  refine X.thenN ?_
  refine wp_seq ?_
  refine wp_seq ?_
  refine wp_region_lit ?_
  refine X.pval F (X.w0 rfl) rfl (X.move rfl (F.ev 0 (.slice a n c) (by kernel_rfl))) ?_
  clear F ac
  intro ac F
  refine X.pval F (X.w0 rfl) rfl (X.len1 Try.underlying26 rfl (F.ev 9 (.slice a n c) (by kernel_rfl))) ?_
  clear F ac
  intro ac F
  refine X.pval F (X.w0 rfl) rfl (X.move rfl (X.kc (.int .i64 0) rfl)) ?_
  clear F ac
  intro ac F
  refine wpList_nil ?_
  replace F : Fr ac 36 [(0, .slice a n c), (1, .slice b m d), (4, .int .i64 0), (9, .slice a n c), (10, .int .i64 n), (11, .int .i64 0)] := F.sub _ (by kernel_rfl)
  refine X.thenN ?_
  refine wp_block ?_
  have hxB := hx
  have hyB := hy
  have GB := G
  refine wp_loop_ghost (fun me_ ac wr => ∃ (k : Nat), me_ = n - k ∧ Gr w wr ∧ k ≤ n ∧ k ≤ m ∧ Hid (cmpL xs ys = cmpL (xs.drop k) (ys.drop k)) ∧ Fr ac 36 [(0, .slice a n c), (1, .slice b m d), (9, .slice a n c), (10, .int .i64 n), (11, .int .i64 k)]) _ ⟨0, rfl, Gr.refl _, Nat.zero_le _, Nat.zero_le _, Lib.hid rfl, F.sub _ (by kernel_rfl)⟩ ?_
  clear F
  intro me_ ac w3 hI
  obtain ⟨k, rfl, gr, hk, hm, HC, F⟩ := hI
  replace G := GB.trans gr
  replace hx := hxB.gr gr
  replace hy := hyB.gr gr
  have GB_ := gr
  clear gr
  refine wp_seq ?_
  refine wp_region_lit ?_
  refine X.pval F (X.w0 rfl) rfl (X.binop rfl (F.ev 11 (.int .i64 k) (by kernel_rfl)) (F.ev 10 (.int .i64 n) (by kernel_rfl)) (X.lssI Try.underlying3 rfl)) ?_
  clear F ac
  intro ac F
  refine wpList_nil ?_
  replace F : Fr ac 36 [(0, .slice a n c), (1, .slice b m d), (9, .slice a n c), (10, .int .i64 n), (11, .int .i64 k), (12, .bool (decide ((k : Int) < n)))] := F.sub _ (by kernel_rfl)
  refine X.thenN ?_
  refine wp_seq ?_
  cases h4 : decide ((k : Int) < n) with
  | false =>
    try rw [h4] at F
    have h4p : ¬ ((k : Int) < n) := of_decide_eq_false h4
    have hkn : k = xs.length := by have := hx.len; omega
    refine wp_cond_false (F.ev 12 (.bool false) (by kernel_rfl)) ?_
    refine wp_exit ?_
    refine X.thenX ?_
    refine X.thenX ?_
    refine X.blockX ?_
    refine X.thenN ?_
    refine wp_seq ?_
    refine wp_seq ?_
    refine wp_region_lit ?_
    refine X.pval F (X.w0 rfl) rfl (X.move rfl (F.ev 0 (.slice a n c) (by kernel_rfl))) ?_
    clear F ac
    intro ac F
    refine X.pval F (X.w0 rfl) rfl (X.len1 Try.underlying26 rfl (F.ev 31 (.slice a n c) (by kernel_rfl))) ?_
    clear F ac
    intro ac F
    refine X.pval F (X.w0 rfl) rfl (X.move rfl (F.ev 1 (.slice b m d) (by kernel_rfl))) ?_
    clear F ac
    intro ac F
    refine X.pval F (X.w0 rfl) rfl (X.len1 Try.underlying26 rfl (F.ev 33 (.slice b m d) (by kernel_rfl))) ?_
    clear F ac
    intro ac F
    refine X.pval F (X.w0 rfl) rfl (X.binop rfl (F.ev 32 (.int .i64 n) (by kernel_rfl)) (F.ev 34 (.int .i64 m) (by kernel_rfl)) (X.lssI Try.underlying3 rfl)) ?_
    clear F ac
    intro ac F
    refine wpList_nil ?_
    replace F : Fr ac 36 [(0, .slice a n c), (1, .slice b m d), (9, .slice a n c), (10, .int .i64 n), (11, .int .i64 k), (12, .bool false), (35, .bool (decide ((n : Int) < m)))] := F.sub _ (by kernel_rfl)
    refine X.thenN ?_
    cases h5 : decide ((n : Int) < m) with
    | false =>
      try rw [h5] at F
      have h5p : ¬ ((n : Int) < m) := of_decide_eq_false h5
      have HR : cmpL xs ys = 0 := by rw [HC.out]; exact cmp_0 hkn (by have := hx.len; have := hy.len; omega)
      refine wp_cond_false (F.ev 35 (.bool false) (by kernel_rfl)) ?_
      refine wp_skip ?_
      refine X.thenN ?_
      refine wp_seq ?_
      refine wp_region_lit ?_
      refine X.pval F (X.w0 rfl) rfl (X.assign rfl (X.kc (.int .i64 0) rfl)) ?_
      clear F ac
      intro ac F
      refine wpList_nil ?_
      replace F : Fr ac 36 [(0, .slice a n c), (1, .slice b m d), (4, .int .i64 0), (9, .slice a n c), (10, .int .i64 n), (11, .int .i64 k), (12, .bool false), (35, .bool false)] := F.sub _ (by kernel_rfl)
      refine X.thenN ?_
      refine wp_ret ?_
      exact X.ret1 (v := .int .i64 0) F rfl (by kernel_rfl) ⟨by rw [HR], G⟩
    | true =>
      try rw [h5] at F
      have h5p : ((n : Int) < m) := of_decide_eq_true h5
      have HR : cmpL xs ys = -1 := by rw [HC.out]; exact cmp_lt hkn (by have := hx.len; have := hy.len; omega)
      refine wp_cond_true (F.ev 35 (.bool true) (by kernel_rfl)) ?_
      refine wp_seq ?_
      refine wp_region_lit ?_
      refine X.pval F (X.w0 rfl) rfl (X.assign rfl (X.kc (.int .i64 (-1)) rfl)) ?_
      clear F ac
      intro ac F
      refine wpList_nil ?_
      replace F : Fr ac 36 [(0, .slice a n c), (1, .slice b m d), (4, .int .i64 (-1)), (9, .slice a n c), (10, .int .i64 n), (11, .int .i64 k), (12, .bool false), (35, .bool true)] := F.sub _ (by kernel_rfl)
      refine X.thenN ?_
      refine wp_ret ?_
      refine X.thenR ?_
      exact X.ret1 (v := .int .i64 (-1)) F rfl (by kernel_rfl) ⟨by rw [HR], G⟩
  | true =>
    try rw [h4] at F
    have h4p : ((k : Int) < n) := of_decide_eq_true h4
    have hlt : k < n := by omega
    have hln := hx.2.1
    obtain ⟨pd, hpa, hpb, hpc⟩ := hx.at hlt
    subst hpa
    have hC : RCells w3 [(pd.add k, .int .i64 (xs[k]?.getD 0))] := (RCells.cons hpc (RCells.nil _))
    refine wp_cond_true (F.ev 12 (.bool true) (by kernel_rfl)) ?_
    refine wp_skip ?_
    refine X.thenN ?_
    refine wp_seq ?_
    refine wp_block ?_
    refine wp_seq ?_
    refine wp_region_lit ?_
    refine X.pval F (X.w0 rfl) rfl (X.move rfl (F.ev 11 (.int .i64 k) (by kernel_rfl))) ?_
    clear F ac
    intro ac F
    refine X.pval F (X.w0 rfl) rfl (X.index rfl (F.ev 9 (.slice (some pd) n c) (by kernel_rfl)) (F.ev 11 (.int .i64 k) (by kernel_rfl)) (X.idx Try.underlying26 (Try.siz3 _) (by omega) rfl (by rw [Nat.mul_one]))) ?_
    clear F ac
    intro ac F
    refine X.pval F (X.w0 rfl) rfl (X.load rfl (F.ev 14 (.pointer (some (pd.add k))) (by kernel_rfl)) (X.ld1 (Try.agg3 _) (hC.at 0 rfl))) ?_
    clear F ac
    intro ac F
    refine X.pval F (X.w0 rfl) rfl (X.assign rfl (F.ev 13 (.int .i64 k) (by kernel_rfl))) ?_
    clear F ac
    intro ac F
    refine X.pval F (X.w0 rfl) rfl (X.assign rfl (F.ev 15 (.int .i64 (xs[k]?.getD 0)) (by kernel_rfl))) ?_
    clear F ac
    intro ac F
    refine wpList_nil ?_
    replace F : Fr ac 36 [(0, .slice (some pd) n c), (1, .slice b m d), (5, .int .i64 k), (6, .int .i64 (xs[k]?.getD 0)), (9, .slice (some pd) n c), (10, .int .i64 n), (11, .int .i64 k), (12, .bool true)] := F.sub _ (by kernel_rfl)
    refine X.thenN ?_
    refine wp_seq ?_
    refine wp_seq ?_
    refine wp_region_lit ?_
    refine X.pval F (X.w0 rfl) rfl (X.move rfl (F.ev 5 (.int .i64 k) (by kernel_rfl))) ?_
    clear F ac
    intro ac F
    refine X.pval F (X.w0 rfl) rfl (X.move rfl (F.ev 1 (.slice b m d) (by kernel_rfl))) ?_
    clear F ac
    intro ac F
    refine X.pval F (X.w0 rfl) rfl (X.len1 Try.underlying26 rfl (F.ev 17 (.slice b m d) (by kernel_rfl))) ?_
    clear F ac
    intro ac F
    refine X.pval F (X.w0 rfl) rfl (X.binop rfl (F.ev 16 (.int .i64 k) (by kernel_rfl)) (F.ev 18 (.int .i64 m) (by kernel_rfl)) (X.geqI Try.underlying3 rfl)) ?_
    clear F ac
    intro ac F
    refine wpList_nil ?_
    replace F : Fr ac 36 [(0, .slice (some pd) n c), (1, .slice b m d), (5, .int .i64 k), (6, .int .i64 (xs[k]?.getD 0)), (9, .slice (some pd) n c), (10, .int .i64 n), (11, .int .i64 k), (12, .bool true), (19, .bool (decide ((m : Int) ≤ k)))] := F.sub _ (by kernel_rfl)
    refine X.thenN ?_
    cases h6 : decide ((m : Int) ≤ k) with
    | false =>
      try rw [h6] at F
      have h6p : ¬ ((m : Int) ≤ k) := of_decide_eq_false h6
      have hlm : k < m := by omega
      obtain ⟨qd, hqa, hqb, hqc⟩ := hy.at hlm
      subst hqa
      replace hC : RCells w3 [(pd.add k, .int .i64 (xs[k]?.getD 0)), (qd.add k, .int .i64 (ys[k]?.getD 0))] := hC.append ((RCells.cons hqc (RCells.nil _)))
      refine wp_cond_false (F.ev 19 (.bool false) (by kernel_rfl)) ?_
      refine wp_skip ?_
      refine X.thenN ?_
      refine wp_seq ?_
      refine wp_region_lit ?_
      refine X.pval F (X.w0 rfl) rfl (X.move rfl (F.ev 1 (.slice (some qd) m d) (by kernel_rfl))) ?_
      clear F ac
      intro ac F
      refine X.pval F (X.w0 rfl) rfl (X.move rfl (F.ev 5 (.int .i64 k) (by kernel_rfl))) ?_
      clear F ac
      intro ac F
      refine X.pval F (X.w0 rfl) rfl (X.index rfl (F.ev 20 (.slice (some qd) m d) (by kernel_rfl)) (F.ev 21 (.int .i64 k) (by kernel_rfl)) (X.idx Try.underlying26 (Try.siz3 _) (by omega) rfl (by rw [Nat.mul_one]))) ?_
      clear F ac
      intro ac F
      refine X.pval F (X.w0 rfl) rfl (X.load rfl (F.ev 22 (.pointer (some (qd.add k))) (by kernel_rfl)) (X.ld1 (Try.agg3 _) (hC.at 1 rfl))) ?_
      clear F ac
      intro ac F
      refine X.pval F (X.w0 rfl) rfl (X.assign rfl (F.ev 23 (.int .i64 (ys[k]?.getD 0)) (by kernel_rfl))) ?_
      clear F ac
      intro ac F
      refine wpList_nil ?_
      replace F : Fr ac 36 [(0, .slice (some pd) n c), (1, .slice (some qd) m d), (5, .int .i64 k), (6, .int .i64 (xs[k]?.getD 0)), (7, .int .i64 (ys[k]?.getD 0)), (9, .slice (some pd) n c), (10, .int .i64 n), (11, .int .i64 k), (12, .bool true), (19, .bool false)] := F.sub _ (by kernel_rfl)
      refine X.thenN ?_
      refine wp_seq ?_
      refine wp_region_lit ?_
      refine X.pval F (X.w0 rfl) rfl (X.move rfl (F.ev 6 (.int .i64 (xs[k]?.getD 0)) (by kernel_rfl))) ?_
      clear F ac
      intro ac F
      refine X.pval F (X.w0 rfl) rfl (X.move rfl (F.ev 7 (.int .i64 (ys[k]?.getD 0)) (by kernel_rfl))) ?_
      clear F ac
      intro ac F
      refine X.pcall F (X.w0 rfl) rfl (X.enter (F := 83) rfl (X.kc (.func (.func 83) #[] #[]) rfl) (X.a2 (F.ev 24 (.int .i64 (xs[k]?.getD 0)) (by kernel_rfl)) (F.ev 25 (.int .i64 (ys[k]?.getD 0)) (by kernel_rfl))) (enters_of Try.func83 (by kernel_rfl) rfl _)) (compare_any (xs[k]?.getD 0) (ys[k]?.getD 0) w3) ?_
      clear F ac
      rintro e w' ⟨rfl, rfl⟩
      refine ⟨_, rfl, ?_⟩
      intro ac F
      refine X.pval F (X.w0 rfl) rfl (X.assign rfl (F.ev 26 (.int .i64 (cmpI (xs[k]?.getD 0) (ys[k]?.getD 0))) (by kernel_rfl))) ?_
      clear F ac
      intro ac F
      refine wpList_nil ?_
      replace F : Fr ac 36 [(0, .slice (some pd) n c), (1, .slice (some qd) m d), (5, .int .i64 k), (6, .int .i64 (xs[k]?.getD 0)), (7, .int .i64 (ys[k]?.getD 0)), (8, .int .i64 (cmpI (xs[k]?.getD 0) (ys[k]?.getD 0))), (9, .slice (some pd) n c), (10, .int .i64 n), (11, .int .i64 k), (12, .bool true), (19, .bool false)] := F.sub _ (by kernel_rfl)
      refine X.thenN ?_
      refine wp_seq ?_
      refine wp_region_lit ?_
      refine X.pval F (X.w0 rfl) rfl (X.move rfl (F.ev 8 (.int .i64 (cmpI (xs[k]?.getD 0) (ys[k]?.getD 0))) (by kernel_rfl))) ?_
      clear F ac
      intro ac F
      refine X.pval F (X.w0 rfl) rfl (X.binop rfl (F.ev 27 (.int .i64 (cmpI (xs[k]?.getD 0) (ys[k]?.getD 0))) (by kernel_rfl)) (X.kc (.int .i64 0) rfl) (X.neqI Try.underlying3 rfl)) ?_
      clear F ac
      intro ac F
      refine wpList_nil ?_
      replace F : Fr ac 36 [(0, .slice (some pd) n c), (1, .slice (some qd) m d), (5, .int .i64 k), (6, .int .i64 (xs[k]?.getD 0)), (7, .int .i64 (ys[k]?.getD 0)), (8, .int .i64 (cmpI (xs[k]?.getD 0) (ys[k]?.getD 0))), (9, .slice (some pd) n c), (10, .int .i64 n), (11, .int .i64 k), (12, .bool true), (19, .bool false), (28, .bool ((cmpI (xs[k]?.getD 0) (ys[k]?.getD 0) : Int) != 0))] := F.sub _ (by kernel_rfl)
      refine X.thenN ?_
      cases h7 : ((cmpI (xs[k]?.getD 0) (ys[k]?.getD 0) : Int) != 0) with
      | false =>
        try rw [h7] at F
        have h7p : (cmpI (xs[k]?.getD 0) (ys[k]?.getD 0) : Int) = 0 := by simpa using h7
        have HC2 : Hid (cmpL xs ys = cmpL (xs.drop (k + 1)) (ys.drop (k + 1))) := Lib.hid (by rw [HC.out]; exact cmp_eq (by rw [hx.len]; exact hlt) (by rw [hy.len]; exact hlm) h7p)
        refine wp_cond_false (F.ev 28 (.bool false) (by kernel_rfl)) ?_
        refine wp_skip ?_
        refine X.blockN ?_
        refine X.thenN ?_
        refine wp_region_lit ?_
        refine X.pval F (X.w0 rfl) rfl (X.binop rfl (F.ev 11 (.int .i64 k) (by kernel_rfl)) (X.kc (.int .i64 1) rfl) (X.addI Try.underlying3 rfl (by omega) (by omega))) ?_
        clear F ac
        intro ac F
        refine X.pval F (X.w0 rfl) rfl (X.move rfl (F.ev 30 (.int .i64 ((k : Int) + 1)) (by kernel_rfl))) ?_
        clear F ac
        intro ac F
        refine wpList_nil ?_
        replace F : Fr ac 36 [(0, .slice (some pd) n c), (1, .slice (some qd) m d), (5, .int .i64 k), (6, .int .i64 (xs[k]?.getD 0)), (7, .int .i64 (ys[k]?.getD 0)), (8, .int .i64 (cmpI (xs[k]?.getD 0) (ys[k]?.getD 0))), (9, .slice (some pd) n c), (10, .int .i64 n), (11, .int .i64 ((k : Int) + 1)), (12, .bool true), (19, .bool false), (28, .bool false)] := F.sub _ (by kernel_rfl)
        refine X.thenN ?_
        refine ⟨_, ?_, k + 1, rfl, GB_, by omega, by omega, HC2, F.sub _ (by kernel_rfl)⟩
        omega
      | true =>
        try rw [h7] at F
        have h7p : ¬ (cmpI (xs[k]?.getD 0) (ys[k]?.getD 0) : Int) = 0 := by simpa using h7
        have HR : cmpL xs ys = cmpI (xs[k]?.getD 0) (ys[k]?.getD 0) := by rw [HC.out]; exact cmp_ne (by rw [hx.len]; exact hlt) (by rw [hy.len]; exact hlm) h7p
        refine wp_cond_true (F.ev 28 (.bool true) (by kernel_rfl)) ?_
        refine wp_seq ?_
        refine wp_region_lit ?_
        refine X.pval F (X.w0 rfl) rfl (X.move rfl (F.ev 8 (.int .i64 (cmpI (xs[k]?.getD 0) (ys[k]?.getD 0))) (by kernel_rfl))) ?_
        clear F ac
        intro ac F
        refine X.pval F (X.w0 rfl) rfl (X.assign rfl (F.ev 29 (.int .i64 (cmpI (xs[k]?.getD 0) (ys[k]?.getD 0))) (by kernel_rfl))) ?_
        clear F ac
        intro ac F
        refine wpList_nil ?_
        replace F : Fr ac 36 [(0, .slice (some pd) n c), (1, .slice (some qd) m d), (4, .int .i64 (cmpI (xs[k]?.getD 0) (ys[k]?.getD 0))), (5, .int .i64 k), (6, .int .i64 (xs[k]?.getD 0)), (7, .int .i64 (ys[k]?.getD 0)), (8, .int .i64 (cmpI (xs[k]?.getD 0) (ys[k]?.getD 0))), (9, .slice (some pd) n c), (10, .int .i64 n), (11, .int .i64 k), (12, .bool true), (19, .bool false), (28, .bool true)] := F.sub _ (by kernel_rfl)
        refine X.thenN ?_
        refine wp_ret ?_
        refine X.blockR ?_
        refine X.thenR ?_
        refine X.thenR ?_
        refine X.blockR ?_
        refine X.thenR ?_
        exact X.ret1 (v := .int .i64 (cmpI (xs[k]?.getD 0) (ys[k]?.getD 0))) F rfl (by kernel_rfl) ⟨by rw [HR], G⟩
    | true =>
      try rw [h6] at F
      have h6p : ((m : Int) ≤ k) := of_decide_eq_true h6
      have HR : cmpL xs ys = 1 := by rw [HC.out]; exact cmp_1 (by rw [hx.len]; exact hlt) (by have := hy.len; omega)
      refine wp_cond_true (F.ev 19 (.bool true) (by kernel_rfl)) ?_
      refine wp_seq ?_
      refine wp_region_lit ?_
      refine X.pval F (X.w0 rfl) rfl (X.assign rfl (X.kc (.int .i64 1) rfl)) ?_
      clear F ac
      intro ac F
      refine wpList_nil ?_
      replace F : Fr ac 36 [(0, .slice (some pd) n c), (1, .slice b m d), (4, .int .i64 1), (5, .int .i64 k), (6, .int .i64 (xs[k]?.getD 0)), (9, .slice (some pd) n c), (10, .int .i64 n), (11, .int .i64 k), (12, .bool true), (19, .bool true)] := F.sub _ (by kernel_rfl)
      refine X.thenN ?_
      refine wp_ret ?_
      refine X.thenR ?_
      refine X.blockR ?_
      refine X.thenR ?_
      refine X.thenR ?_
      refine X.blockR ?_
      refine X.thenR ?_
      exact X.ret1 (v := .int .i64 1) F rfl (by kernel_rfl) ⟨by rw [HR], G⟩
end
section
open Go.RowKit

/-- what the reference's states returns -/
def StPost (w : World) (L : List (List Int)) (e : Ending) (w' : World) : Prop := ∃ v, e = .returned v ∧ OutR w' w.heap.size v L ∧ Gr w w'
theorem OwnI.is3 {w : World} {B n c : Nat} {a : Option Addr} {xs : List Int} (h : OwnI w B (.slice a n c) xs) : ∀ ad, a = some ad → Is3 w ad.block := by
  intro ad e
  subst e
  rcases h.2 with ⟨h, _⟩ | ⟨g, cap, cur, h, _, hg, _⟩
  · cases h
  · cases h; exact ⟨_, _, hg⟩

set_option maxRecDepth 100000 in
set_option maxHeartbeats 4000000 in
theorem states2_leaf (ta ca a : Option Addr) (tn tc cn cc n c : Nat) (f : Fl) (pre : List Int) (w : World) (hf : FlAt w ta tn ca cn f) (hx : Ints w a n pre) (hok : FlOk f) (hp : PreOk f pre) (hl : pre.length = f.times.length) (h3 : ∀ ad, a = some ad → Is3 w ad.block) :
    Calls Try.prog 81 #[.agg #[.slice ta tn tc, .slice ca cn cc], .slice a n c] w (StPost w (enumR f 0 pre)) := by
  have hst := hp.st hl
  have hnt : n = tn := by rw [← hx.len, hl, hf.t.len]
  subst hnt
  have g := Gr.alloc w (.cells #[.slice ta n tc, .slice ca cn cc] 25)
  have hC := (RCells.nil w).box (b := w.heap.size) #[.slice ta n tc, .slice ca cn cc] 25 rfl
  obtain ⟨w2, hw2⟩ : ∃ w2, w.alloc (.cells #[.slice ta n tc, .slice ca cn cc] 25) = w2 := ⟨_, rfl⟩
  rw [hw2] at g hC
  have c0 : w2.cell? ⟨w.heap.size, 0, none⟩ = some (.slice ta n tc) := hC.at 0 rfl
  have c1 : w2.cell? ⟨w.heap.size, 1, none⟩ = some (.slice ca cn cc) := hC.at 1 rfl
  have hee : ((n : Int) == (n : Int)) = true := by simp
  have HC := Lib.hid (clash2_any ta ca a n tc cn cc n c f pre w2 (hf.gr g) hok (hx.gr g) hst)
  have HN1 : Hid (0 < n) := Lib.hid (by have := hok.n1; have := hx.len; omega)
  go_enter Try.func81, Try.ntmps81
  go_wp2_with fail
  refine HC.out.mono ?_
  rintro e w3 ⟨rfl, g3⟩
  clear hw2 HC c0 c1
  by_cases hc : (0 : Int) ≤ clashI f pre
  · have hw : worksB f pre = false := by unfold worksB; exact decide_eq_false (by omega)
    have HR : Hid (enumR f 0 pre = []) := Lib.hid (by simp [enumR, hw])
    go_wp2_with fail
    go_ret
    rw [HR.out]
    exact ⟨_, rfl, OutR.nil _ _, g.trans g3⟩
  · have hw : worksB f pre = true := by unfold worksB; exact decide_eq_true (by omega)
    have HR : Hid (enumR f 0 pre = [pre]) := Lib.hid (by simp [enumR, hw])
    clear hw
    go_wp2_with fail
    go_ret
    rw [HR.out]
    have g4 := (g.trans g3).allocR (.cells #[.slice a n c] 26)
    refine ⟨_, rfl, ?_, g4⟩
    obtain ⟨ad, rfl, hab, _⟩ := hx.at HN1.out
    refine ⟨[.slice (some ad) n c], ⟨rfl, .inr ⟨w3.heap.size, 1, #[.slice (some ad) n c], rfl, (g.trans g3).size, World.alloc_heap_new _ _, Nat.le_refl _, by unfold maxLen; simp, rfl, rfl⟩⟩, fun j hj => ?_⟩
    have hj0 : j = 0 := by simp at hj; omega
    subst hj0
    exact ⟨ad, n, c, rfl, hx.gr g4, (h3 ad rfl).gr g4⟩

set_option maxRecDepth 100000 in
set_option maxHeartbeats 4000000 in
theorem states2_any (f : Fl) (hok : FlOk f) (ta ca : Option Addr) (tn tc cn cc : Nat) : ∀ (k : Nat) (a : Option Addr) (n c : Nat) (pre : List Int) (w : World), FlAt w ta tn ca cn f → Ints w a n pre → PreOk f pre → pre.length + k = f.times.length → (∀ ad, a = some ad → Is3 w ad.block) →
    Calls Try.prog 81 #[.agg #[.slice ta tn tc, .slice ca cn cc], .slice a n c] w (StPost w (enumR f k pre)) := by
  intro k
  induction k with
  | zero =>
    intro a n c pre w hf hx hp hl h3
    exact states2_leaf ta ca a tn tc cn cc n c f pre w hf hx hok hp (by omega) h3
  | succ k ih =>
    intro a n c pre w hf hx hp hl h3
    have IH : Hid (∀ (a : Option Addr) (n c : Nat) (pre' : List Int) (w : World), FlAt w ta tn ca cn f → Ints w a n pre' → PreOk f pre' → pre'.length + k = f.times.length → (∀ ad, a = some ad → Is3 w ad.block) →
        Calls Try.prog 81 #[.agg #[.slice ta tn tc, .slice ca cn cc], .slice a n c] w (StPost w (enumR f k pre'))) := Lib.hid (fun a n c pre' w h1 h2 h3 h4 h5 => ih a n c pre' w h1 h2 h3 h4 h5)
    have HPO := Lib.hid hp
    have hnt : n < tn := by have := hx.len; have := hf.t.len; omega
    have hn6 : n < 6 := by have := hok.n6; have := hf.t.len; omega
    have hne : ((n : Int) == (tn : Int)) = false := by simp; omega
    have HLK : Hid (pre.length + (k + 1) = f.times.length) := Lib.hid hl
    obtain ⟨td, qa, qn, qc, hta, htb, htc, hqi⟩ := hf.t.at hnt
    subst hta
    have HQL : Hid ((f.times[pre.length]?.getD []).length = qn) := Lib.hid (by rw [hx.len]; exact hqi.len)
    have hq3 : qn ≤ 3 := by have := hok.row pre.length (by omega); have := HQL.out; omega
    have HLEN : Hid (∀ m, m ≤ qn + 1 → (enumTo2 f k pre m).length ≤ 4096) := Lib.hid (fun m hm => enumTo2_len hok hl (by rw [HQL.out]; exact hm))
    have HLE2 : Hid (∀ m : Nat, (enumR f k (pre ++ [(m : Int)])).length ≤ 4096) := Lib.hid (fun m => by
      have h1 := enumR_len hok k (pre ++ [(m : Int)]) (by simp; omega)
      have h6 := hok.n6
      have h4 : 4 ^ k ≤ 4 ^ 6 := Nat.pow_le_pow_right (by omega) (by omega)
      have h5 : (4 : Nat) ^ 6 = 4096 := by decide
      omega)
    have HXL : Hid (∀ m : Int, (pre ++ [m]).length = n + 1) := Lib.hid (fun m => by simp [hx.len])
    clear ih hp hl
    have g := Gr.alloc w (.cells #[.slice (some td) tn tc, .slice ca cn cc] 25)
    have hC := ((RCells.nil w).box (b := w.heap.size) #[.slice (some td) tn tc, .slice ca cn cc] 25 rfl).append (RCells.cons ((g.cell (lt_cell htc)).trans htc) (RCells.nil _))
    obtain ⟨w2, hw2⟩ : ∃ w2, w.alloc (.cells #[.slice (some td) tn tc, .slice ca cn cc] 25) = w2 := ⟨_, rfl⟩
    rw [hw2] at g hC
    have d0 : w2.cell? ⟨w.heap.size, 0, none⟩ = some (.slice (some td) tn tc) := hC.at 0 rfl
    go_enter Try.func81, Try.ntmps81
    go_wp2_with fail
    clear d0 hw2
    go_loopw [5, 6] (fun o i wr => ∃ (m : Nat) (vv : Value), m ≤ qn + 1 ∧ i = .int .i64 m ∧ vv = o ∧ Gr w2 wr ∧ OutR wr w2.heap.size o (enumTo2 f k pre m)) (fun _ i _ => qn + 1 - (intOf i).toNat)
    case atStart => exact ⟨0, _, Nat.zero_le _, rfl, rfl, Gr.refl _, OutR.nil _ _⟩
    case round =>
      obtain ⟨m, vv, hm, rfl, rfl, gr, hO⟩ := hrel
      have gw := g.trans gr
      have hC' := hC.gr gr
      have c0 : wr.cell? ⟨w.heap.size, 0, none⟩ = some (.slice (some td) tn tc) := hC'.at 0 rfl
      have c1 : wr.cell? ⟨w.heap.size, 1, none⟩ = some (.slice ca cn cc) := hC'.at 1 rfl
      have c2 : wr.cell? (td.add n) = some (.slice qa qn qc) := hC'.at 2 rfl
      have hLa := HLEN.out m hm
      have hLb := HLE2.out m
      by_cases hlt : (m : Int) ≤ (qn : Int)
      · have hmq : m ≤ qn := by omega
        have HP2 : Hid (PreOk f (pre ++ [(m : Int)])) := Lib.hid (HPO.out.snoc (by rw [HQL.out]; exact hmq))
        go_wp2_with fail
        refine (wpIn_wide (n := 0)).1 ?_
        refine region_inv2 (F := Fence.wide) (by kernel_rfl) (by rfl) (by decide) (fun _ => trivial)
          (fun done' u W' => Kn [some (vv), some (.agg #[.slice (some td) tn tc, .slice ca cn cc]), some (.slice a n c), none, some (.int .i64 m), none, none, none, none, none] done' u ∧ R81 wr w2 pre (m : Int) vv (enumTo2 f k pre m) (enumR f k (pre ++ [(m : Int)])) done' u W')
          (fun u hself => ⟨Kn.start _ _, R81.start wr w2 pre (m : Int) vv (enumTo2 f k pre m) (enumR f k (pre ++ [(m : Int)])) u (fillL_was hself (by decide) 9 rfl rfl rfl)⟩) ⟨?_, ?_, ?_, ?_, ?_, ?_, ?_, ?_, ?_, ?_, trivial⟩ ?_
        · rintro u done' W' hd hanc hclo ⟨hk, hR⟩
          have e9 := hR.old (not_done hclo hd 9 rfl (by kernel_rfl))
          refine op_plain (ro := none) rfl (fun c h => by cases h) fun K hK => ?_
          simp only [fillL, List.setIfInBounds_toArray, List.set_cons_zero, List.set_cons_succ, Nat.zero_add, Nat.reduceAdd, e9] at hK ⊢
          go_simp
          exact hK _ _ ⟨hk.new rfl, hR.quiet (by decide) (by decide) (by decide) (by decide) (by decide) (by decide)⟩
        · rintro u done' W' hd hanc hclo ⟨hk, hR⟩
          have g8 := hR.gr (not_done hclo hd 8 rfl (by kernel_rfl))
          have cc0 := (g8.cell (lt_cell c0)).trans c0
          have cc1 := (g8.cell (lt_cell c1)).trans c1
          refine op_plain (ro := none) rfl (fun c h => by cases h) fun K hK => ?_
          simp only [fillL, List.setIfInBounds_toArray, List.set_cons_zero, List.set_cons_succ, Nat.zero_add, Nat.reduceAdd] at hK ⊢
          go_simp
          exact hK _ _ ⟨hk.new rfl, hR.quiet (by decide) (by decide) (by decide) (by decide) (by decide) (by decide)⟩
        · rintro u done' W' hd hanc hclo ⟨hk, hR⟩
          refine op_plain (ro := none) rfl (fun c h => by cases h) fun K hK => ?_
          simp only [fillL, List.setIfInBounds_toArray, List.set_cons_zero, List.set_cons_succ, Nat.zero_add, Nat.reduceAdd] at hK ⊢
          go_simp
          exact hK _ _ ⟨hk.new rfl, hR.quiet (by decide) (by decide) (by decide) (by decide) (by decide) (by decide)⟩
        · rintro u done' W' hd hanc hclo ⟨hk, hR⟩
          have e2 := hk.get 2 rfl (hanc 2 (mem_of (by kernel_rfl)))
          have g8 := hR.gr (not_done hclo hd 8 rfl (by kernel_rfl))
          have hx8 := hx.gr (gw.trans g8)
          refine op_plain (ro := none) rfl (fun c h => by cases h) fun K hK => ?_
          simp only [fillL, List.setIfInBounds_toArray, List.set_cons_zero, List.set_cons_succ, Nat.zero_add, Nat.reduceAdd, e2] at hK ⊢
          refine wp_copy0 (sa := a) (n := n) (c := c) (y := pre) (B := wr.heap.size) rfl rfl rfl hx8 (by omega) g8.size ?_
          intro x w6 hx6 g6
          exact hK _ _ ⟨hk.skip rfl, hR.copied (not_done hclo hd 6 rfl (by kernel_rfl)) (not_done hclo hd 7 rfl (by kernel_rfl)) (not_done hclo hd 8 rfl (by kernel_rfl)) (not_done hclo hd 9 rfl (by kernel_rfl)) (hR.old (not_done hclo hd 9 rfl (by kernel_rfl))) hx6 g6⟩
        · rintro u done' W' hd hanc hclo ⟨hk, hR⟩
          refine op_plain (ro := none) rfl (fun c h => by cases h) fun K hK => ?_
          simp only [fillL, List.setIfInBounds_toArray, List.set_cons_zero, List.set_cons_succ, Nat.zero_add, Nat.reduceAdd] at hK ⊢
          go_simp
          exact hK _ _ ⟨hk.new rfl, hR.quiet (by decide) (by decide) (by decide) (by decide) (by decide) (by decide)⟩
        · rintro u done' W' hd hanc hclo ⟨hk, hR⟩
          have e4 := hk.get 4 rfl (hanc 4 (mem_of (by kernel_rfl)))
          refine op_plain (ro := none) rfl (fun c h => by cases h) fun K hK => ?_
          simp only [fillL, List.setIfInBounds_toArray, List.set_cons_zero, List.set_cons_succ, Nat.zero_add, Nat.reduceAdd, e4] at hK ⊢
          go_simp
          exact hK _ _ ⟨hk.skip rfl, hR.made (not_done hclo hd 6 rfl (by kernel_rfl)) (not_done hclo hd 7 rfl (by kernel_rfl)) (not_done hclo hd 8 rfl (by kernel_rfl)) (not_done hclo hd 9 rfl (by kernel_rfl)) (hR.old (not_done hclo hd 9 rfl (by kernel_rfl)))⟩
        · rintro u done' W' hd hanc hclo ⟨hk, hR⟩
          have g8 := hR.gr (not_done hclo hd 8 rfl (by kernel_rfl))
          have hcp := hR.cp hd (hanc 3 (mem_of (by kernel_rfl)))
          obtain ⟨g0, e5, hg0⟩ := hR.one hd (hanc 5 (mem_of (by kernel_rfl)))
          refine op_plain (ro := none) rfl (fun c h => by cases h) fun K hK => ?_
          simp only [fillL, List.setIfInBounds_toArray, List.set_cons_zero, List.set_cons_succ, Nat.zero_add, Nat.reduceAdd, e5] at hK ⊢
          generalize u 3 = u3 at *
          refine wp_pushI (w1 := wr) (v := u3) (xs := pre) (g := g0) (z := (m : Int)) rfl rfl rfl hg0 hcp g8 (by rw [hx.len]; omega) ?_
          intro x w6 hx6 g6
          exact hK _ _ ⟨hk.skip rfl, R81.snoc (not_done hclo hd 7 rfl (by kernel_rfl)) (not_done hclo hd 8 rfl (by kernel_rfl)) (not_done hclo hd 9 rfl (by kernel_rfl)) (hR.old (not_done hclo hd 9 rfl (by kernel_rfl))) hx6 g6⟩
        · rintro u done' W' hd hanc hclo ⟨hk, hR⟩
          have e1 := hk.get 1 rfl (hanc 1 (mem_of (by kernel_rfl)))
          have g8 := hR.gr (not_done hclo hd 8 rfl (by kernel_rfl))
          have hex := hR.ext hd (hanc 6 (mem_of (by kernel_rfl)))
          obtain ⟨xa, xc, e6, hxi, _⟩ := hex.ints (by simp; have := hx.lt; have := hx.len; omega)
          rw [e6] at hex
          rw [HXL.out] at e6 hxi hex
          have HCON := Lib.hid (IH.out xa (n + 1) xc (pre ++ [(m : Int)]) W' (hf.gr (gw.trans g8)) hxi HP2.out (by have := HLK.out; simp; omega) hex.is3)
          refine op_plain (ro := none) rfl (fun c h => by cases h) fun K hK => ?_
          simp only [fillL, List.setIfInBounds_toArray, List.set_cons_zero, List.set_cons_succ, Nat.zero_add, Nat.reduceAdd, e1, e6] at hK ⊢
          go_simp
          refine HCON.out.mono ?_
          rintro e w6 ⟨x, rfl, hx6, g6⟩
          exact hK _ _ ⟨hk.skip rfl, hR.called (hanc 6 (mem_of (by kernel_rfl))) (not_done hclo hd 8 rfl (by kernel_rfl)) (not_done hclo hd 9 rfl (by kernel_rfl)) (hR.old (not_done hclo hd 9 rfl (by kernel_rfl))) hx6 g6⟩
        · rintro u done' W' hd hanc hclo ⟨hk, hR⟩
          have e0 := hk.get 0 rfl (hanc 0 (mem_of (by kernel_rfl)))
          have g8 := hR.gr hd
          obtain ⟨B2, hrc⟩ := hR.rc hd (hanc 7 (mem_of (by kernel_rfl)))
          refine op_plain (ro := none) rfl (fun c h => by cases h) fun K hK => ?_
          simp only [fillL, List.setIfInBounds_toArray, List.set_cons_zero, List.set_cons_succ, Nat.zero_add, Nat.reduceAdd, e0] at hK ⊢
          generalize u 7 = u7 at *
          refine wp_pushAll (w1 := w2) (v := vv) (v2 := u7) (L := enumTo2 f k pre m) (M := enumR f k (pre ++ [(m : Int)])) rfl rfl rfl (hO.gr g8) hrc (gr.trans g8) (by omega) (by omega) ?_
          intro x w6 hx6 g6
          exact hK _ _ ⟨hk.skip rfl, R81.joined (hanc 6 (mem_of (by kernel_rfl))) (hanc 7 (mem_of (by kernel_rfl))) (not_done hclo hd 9 rfl (by kernel_rfl)) (hR.old (not_done hclo hd 9 rfl (by kernel_rfl))) hx6 g6⟩
        · rintro u done' W' hd hanc hclo ⟨hk, hR⟩
          refine op_plain (ro := none) rfl (fun c h => by cases h) fun K hK => ?_
          simp only [fillL, List.setIfInBounds_toArray, List.set_cons_zero, List.set_cons_succ, Nat.zero_add, Nat.reduceAdd] at hK ⊢
          go_simp
          exact hK _ _ ⟨hk.skip rfl, hR.last (hanc 6 (mem_of (by kernel_rfl))) (hanc 7 (mem_of (by kernel_rfl))) (hanc 8 (mem_of (by kernel_rfl)))⟩
        · rintro u W' ⟨done', hdn, hk, hR⟩
          
          have h8 := hR.fin (hdn 8 (by decide))
          have e9 := hR.out (hdn 9 (by decide))
          generalize u 8 = u8 at *
          simp only [fillL, List.setIfInBounds_toArray, List.set_cons_zero, List.set_cons_succ, Nat.zero_add, Nat.reduceAdd, e9]
          rw [← enumTo2_succ] at h8
          clear hk hdn hR e9
          go_wp2_with fail
          go_roundw
          case rel => exact ⟨m + 1, _, by omega, by go_num, rfl, h8.2, h8.1⟩
          case measure => simp [intOf] <;> omega
      · obtain rfl : m = qn + 1 := by omega
        have HF : Hid (enumTo2 f k pre (qn + 1) = enumR f (k + 1) pre) := Lib.hid (by rw [← HQL.out]; rfl)
        go_wp2_with fail
        go_ret
        rw [← HF.out]
        exact ⟨_, rfl, hO.mono g.size, gw⟩
end
section
open Go.RowKit

/-- every working state, in order -/
def allV (f : Fl) : List (List Int) := enumR f f.times.length []
theorem allV_len {f : Fl} (hok : FlOk f) : (allV f).length ≤ 4096 := by
  have h := enumR_len hok f.times.length [] (by simp)
  have h2 : (4 : Nat) ^ f.times.length ≤ 4 ^ 6 := Nat.pow_le_pow_right (by decide) hok.n6
  unfold allV; omega
theorem states2_nil (ta ca : Option Addr) (tn tc cn cc : Nat) (f : Fl) (w : World) (hok : FlOk f) (hf : FlAt w ta tn ca cn f) :
    Calls Try.prog 81 #[.agg #[.slice ta tn tc, .slice ca cn cc], .slice none 0 0] w (fun e w' => ∃ ra rn rc, e = .returned (.slice ra rn rc) ∧ RowsAt w' ra rn (allV f) ∧ Gr w w') := by
  refine (states2_any f hok ta ca tn tc cn cc f.times.length none 0 0 [] w hf (Ints.nil _) (fun c hc => by simp at hc) (by simp) (fun ad e => by cases e)).mono ?_
  rintro e w' ⟨v, rfl, ho, g⟩
  obtain ⟨a, c, rfl, hr, _⟩ := ho.rows (by have := allV_len hok; unfold allV at this; omega)
  exact ⟨a, _, c, rfl, hr, g⟩
end
end Go.Proofs.Ytlilojpnhmfnaaa
