/- Several texts of this claim in one file. (1) Contract: the reference's CheckPlan. (2) Lists that a call collects: one more state, a copy of a state. Plain words for Interrupt and Back. (3) Contracts: Back and the reference's. (4) Packets in memory; a block of numbers of a call's own; plain words for Install; contracts of the search for a packet. (5) Arguments that came in: packets and a batch, read off their data. (6) The rule for a region that draws its order, where what the slots held before is known. Nothing of the program is proved here. (7) A walk by lemmas: frames that are known slot by slot, and one rule for regions, drawn or not. Nothing of the program is proved here. -/
import Derived.Test.YtlilojpnhmfnaaaBd6
import Derived.Deep.Slices
import Derived.Test.YtlilojpnhmfnaaaBd3
import Derived.Test.YtlilojpnhmfnaaaBd1
import Derived.Test.YtlilojpnhmfnaaaBd2
import Derived.WalkKit
namespace Go.Proofs.Ytlilojpnhmfnaaa
section
open Go.RowKit

theorem dur_zero_iff {f : Fl} (hok : FlOk f) {a b : List Int} (ha : StOk f a) (hb : StOk f b) (h : aboveV b a = true) : 0 ≤ dur f.times a b ∧ (dur f.times a b = 0 ↔ a = b) := by
  have hle : ∀ c, c < f.times.length → a[c]?.getD 0 ≤ b[c]?.getD 0 := fun c hc => aboveV_le h c (by rw [hb.len]; exact hc)
  have h1 := durTo_bd hok (fun c hc => (ha.ver c hc).1) hb hle f.times.length (Nat.le_refl _)
  have h2 := durTo_zero_iff hok (fun c hc => (ha.ver c hc).1) hb hle f.times.length (Nat.le_refl _)
  unfold dur
  rw [hb.len]
  refine ⟨h1.1, h2.trans ⟨fun he => ?_, fun he => by subst he; intros; rfl⟩⟩
  have hl : a.length = b.length := by rw [ha.len, hb.len]
  exact (eqUpto_iff hl).1 (fun j hj => (he j (by rw [← ha.len]; exact hj)).symm)
theorem stepsB_stepV {f : Fl} (hok : FlOk f) {a b : List Int} (ha : StOk f a) (hb : StOk f b) {bu : Int} : stepsB f.times a b bu = true ↔ 0 ≤ stepV f.times a b ∧ stepV f.times a b ≤ bu := by
  unfold stepsB stepV
  cases h : aboveV b a with
  | false => simp
  | true =>
    have := dur_zero_iff hok ha hb h
    by_cases e : a = b
    · have hz := this.2.2 e
      simp [e] at hz ⊢
      simp [hz]
    · have hz : ¬ dur f.times a b = 0 := fun h => e (this.2.1 h)
      simp [e, hz]
      omega
theorem stepsB_false {f : Fl} (hok : FlOk f) {a b : List Int} (ha : StOk f a) (hb : StOk f b) {bu : Int} (h : stepsB f.times a b bu = false) : stepV f.times a b < 0 ∨ bu < stepV f.times a b := by
  have h1 : ¬ (stepsB f.times a b bu = true) := by simp [h]
  rw [stepsB_stepV hok ha hb] at h1
  omega
theorem stepsB_true2 {f : Fl} (hok : FlOk f) {a b : List Int} (ha : StOk f a) (hb : StOk f b) {bu : Int} (h : stepsB f.times a b bu = true) : 0 ≤ stepV f.times a b ∧ stepV f.times a b ≤ bu := (stepsB_stepV hok ha hb).1 h
theorem stepV_dur {f : Fl} (hok : FlOk f) {a b : List Int} (ha : StOk f a) (hb : StOk f b) {bu : Int} (h : stepsB f.times a b bu = true) : stepV f.times a b = dur f.times a b := by
  have h1 := (stepsB_true2 hok ha hb h).1
  unfold stepV at h1 ⊢
  split at h1
  · split at h1
    · omega
    · rename_i h2 h3; rw [if_pos h2, if_neg h3]
  · omega

theorem stsB_cons (T : List (List Int)) (a : List Int) (L : List (List Int)) : stsB T (a :: L) = (stB T a && stsB T L) := by
  unfold stsB
  rw [List.length_cons, List.range_succ_eq_map]
  simp [List.all_map, Function.comp_def]

theorem cpPre_ref {f : Fl} {a : List Int} {L : List (List Int)} {bu : Int} (h0 : chkE f = 0) (h1 : ¬ 64 < L.length) : (stB f.times a = false → cpPre f a L bu = 1) ∧ (stB f.times a = true → ¬ statesE f L = 0 → cpPre f a L bu = statesE f L) ∧
    (stB f.times a = true → statesE f L = 0 → withinB bu 0 1000000 = false → cpPre f a L bu = 1) ∧ (stB f.times a = true → statesE f L = 0 → withinB bu 0 1000000 = true → cpPre f a L bu = 0) := by
  have hc : chkB f = true := by
    cases h : chkB f with
    | true => rfl
    | false => rw [chkE_of_false h] at h0; omega
  have e : cpPre f a L bu = beginE f bu (a :: L) := by unfold cpPre; rw [if_pos h0, if_neg h1]
  have e2 : statesE f (a :: L) = if stB f.times a && stsB f.times L then 0 else 1 := by unfold statesE; rw [if_pos hc, stsB_cons]
  have e3 : statesE f L = if stsB f.times L then 0 else 1 := by unfold statesE; rw [if_pos hc]
  refine ⟨fun hs => ?_, fun hs hl => ?_, fun hs hl hb => ?_, fun hs hl hb => ?_⟩
  · rw [e]; unfold beginE; rw [e2, hs]; simp
  · cases hl2 : stsB f.times L with
    | true => rw [e3, hl2] at hl; simp at hl
    | false => rw [e]; unfold beginE; rw [e2, e3, hs, hl2]; simp
  · cases hl2 : stsB f.times L with
    | true => rw [e]; unfold beginE; rw [e2, hs, hl2, hb]; simp
    | false => rw [e3, hl2] at hl; simp at hl
  · cases hl2 : stsB f.times L with
    | true => rw [e]; unfold beginE; rw [e2, hs, hl2, hb]; simp
    | false => rw [e3, hl2] at hl; simp at hl

set_option maxRecDepth 100000 in
set_option maxHeartbeats 4000000 in
theorem checkPlan2_any (ta ca a pa : Option Addr) (tn tc cn cc n c pn pc : Nat) (f : Fl) (xs : List Int) (L : List (List Int)) (bu : Int) (w : World) (hf : FlAt w ta tn ca cn f) (hx : Ints w a n xs) (hL : RowsAt w pa pn L) :
    Calls Try.prog 29 #[.agg #[.slice ta tn tc, .slice ca cn cc], .slice a n c, .slice pa pn pc, .int .i64 bu] w fun e w' => e = .returned (.tuple #[.int .i64 (cpR f xs L bu).1, .int .i64 (cpR f xs L bu).2]) ∧ Gr w w' := by
  have g1 := Gr.alloc w (.cells #[.slice ta tn tc, .slice ca cn cc] 25)
  have c0 := cell_new (w := w) (t := 25) (cs := #[.slice ta tn tc, .slice ca cn cc]) (j := 0) rfl
  have c1 := cell_new (w := w) (t := 25) (cs := #[.slice ta tn tc, .slice ca cn cc]) (j := 1) rfl
  obtain ⟨w1, hw1⟩ : ∃ w1, w.alloc (.cells #[.slice ta tn tc, .slice ca cn cc] 25) = w1 := ⟨_, rfl⟩
  rw [hw1] at g1 c0 c1
  have HC := Lib.hid (check2_any ta ca tn tc cn cc f w1 (hf.gr g1))
  have hpl := hL.lt
  by_cases he : chkE f = 0
  · have heb : (chkE f != 0) = false := by simp [he]
    by_cases h64 : 64 < pn
    · have HP : Hid (cpR f xs L bu = (0, 1)) := Lib.hid (by unfold cpR cpPre; rw [if_pos he, hL.len, if_pos h64]; rfl)
      clear he
      go_enter Try.func29, Try.ntmps29
      go_wp2_with fail
      refine HC.out.mono ?_
      rintro e w3 ⟨rfl, g3⟩
      go_wp2_with fail
      go_ret2
      exact ⟨by rw [HP.out]; rfl, g1.trans g3⟩
    have hpre := cpPre_ref (a := xs) (bu := bu) he (by rw [hL.len]; exact h64)
    have HPRE := Lib.hid hpre
    have HE := Lib.hid he
    clear he hpre
    go_enter Try.func29, Try.ntmps29
    go_wp2_with fail
    refine HC.out.mono ?_
    rintro e w3 ⟨rfl, g3⟩
    have G3 := g1.trans g3
    have d0 := (g3.cell (lt_cell c0)).trans c0
    have d1 := (g3.cell (lt_cell c1)).trans c1
    clear hw1 c0 c1 HC g1 g3
    have HS := Lib.hid (state_any ta ca a tn tc cn cc n c f xs w3 (hf.gr G3) (hx.gr G3))
    go_wp2_with fail
    refine HS.out.mono ?_
    rintro e w4 ⟨rfl, g4⟩
    have G4 := G3.trans g4
    have e0 := (g4.cell (lt_cell d0)).trans d0
    have e1 := (g4.cell (lt_cell d1)).trans d1
    clear d0 d1 HS g4
    cases hst : stB f.times xs with
    | false =>
      have HP : Hid (cpR f xs L bu = (0, 1)) := Lib.hid (by unfold cpR; rw [HPRE.out.1 hst]; rfl)
      clear hst
      go_wp2_with fail
      go_ret2
      exact ⟨by rw [HP.out]; rfl, G4⟩
    | true =>
      have HSD := Lib.hid (stated_any ta ca pa tn tc cn cc pn pc f L w4 (hf.gr G4) (hL.gr G4))
      have HST := Lib.hid hst
      clear hst
      go_wp2_with fail
      refine HSD.out.mono ?_
      rintro e w5 ⟨rfl, g5⟩
      have G5 := G4.trans g5
      have k0 := (g5.cell (lt_cell e0)).trans e0
      have k1 := (g5.cell (lt_cell e1)).trans e1
      clear e0 e1 HSD g5
      by_cases hl0 : statesE f L = 0
      · have hlb : (statesE f L != 0) = false := by simp [hl0]
        have HL0 := Lib.hid hl0
        clear hl0
        cases hb : withinB bu 0 1000000 with
        | false =>
          have HP : Hid (cpR f xs L bu = (0, 1)) := Lib.hid (by unfold cpR; rw [HPRE.out.2.2.1 HST.out HL0.out hb]; rfl)
          go_wp2_with (go_at_call 63; refine (within2_any _ _ _ _).mono ?_; rintro e w' ⟨rfl, rfl⟩)
          go_ret2
          exact ⟨by rw [HP.out]; rfl, G5⟩
        | true =>
          have hok : FlOk f := chkB_ok (statesE_zero HL0.out).1
          have hst := stB_ok HST.out
          have hall : ∀ j, j < L.length → StOk f (L[j]?.getD []) := by
            have h1 := (statesE_zero HL0.out).2
            simp only [stsB, List.all_eq_true, List.mem_range] at h1
            exact fun j hj => stB_ok (h1 j hj)
          have hnt : n = f.times.length := by rw [← hst.len, hx.len]
          have HPR : Hid (cpR f xs L bu = if worksB f xs then cpLoop f bu xs L 0 else (-1, 111)) := Lib.hid (by unfold cpR; rw [HPRE.out.2.2.2 HST.out HL0.out hb, if_pos rfl])
          have HNT := Lib.hid hnt
          have HALL := Lib.hid hall
          have HOK := Lib.hid hok
          have h0 := clashI_of f xs
          have HW := Lib.hid (clash2_any ta ca a tn tc cn cc n c f xs w5 (hf.gr G5) hok (hx.gr G5) hst)
          clear hnt hall hok HPRE
          go_wp2_with (go_at_call 63; refine (within2_any _ _ _ _).mono ?_; rintro e w' ⟨rfl, rfl⟩)
          refine HW.out.mono ?_
          rintro e w6 ⟨rfl, g6⟩
          have G6 := G5.trans g6
          have j0 := (g6.cell (lt_cell k0)).trans k0
          have j1 := (g6.cell (lt_cell k1)).trans k1
          clear k0 k1 HW g6
          cases hwx : worksB f xs with
          | false =>
            have HP : Hid (cpR f xs L bu = (-1, 111)) := Lib.hid (by rw [HPR.out, hwx]; rfl)
            have h0 := h0.2 hwx
            go_wp2_with fail
            go_ret2
            exact ⟨by rw [HP.out]; rfl, G6⟩
          | true =>
            have HP : Hid (cpR f xs L bu = cpLoop f bu xs L 0) := Lib.hid (by rw [HPR.out, hwx]; rfl)
            have h0 := h0.1 hwx
            clear HPR
            go_wp2_with fail
            go_loopw [12, 13] (fun s i wr => ∃ (k : Nat) (p : List Int) (qa : Option Addr) (qc : Nat), k ≤ pn ∧ i = .int .i64 k ∧ s = .slice qa n qc ∧ Gr w wr ∧ Ints wr qa n p ∧ StOk f p ∧ wr.cell? ⟨w.heap.size, 0, none⟩ = some (.slice ta tn tc) ∧ wr.cell? ⟨w.heap.size, 1, none⟩ = some (.slice ca cn cc) ∧ Hid (cpLoop f bu xs L 0 = cpLoop f bu p (L.drop k) k)) (fun _ i _ => pn - (intOf i).toNat)
            case atStart => exact ⟨0, xs, a, c, Nat.zero_le _, rfl, rfl, G6, hx.gr G6, hst, j0, j1, Lib.hid (by simp)⟩
            case round =>
              obtain ⟨k, p, qa, qc, hk, rfl, rfl, gr, hp, hps, m0, m1, HL⟩ := hrel
              by_cases hlt : k < pn
              · obtain ⟨pd, ya, yn, yc, rfl, hpb, hpc, hyi⟩ := (hL.gr gr).at hlt
                have hys : StOk f (L[k]?.getD []) := HALL.out k (by rw [hL.len]; exact hlt)
                have hyn : yn = n := by rw [← hyi.len, hys.len]; exact HNT.out.symm
                subst hyn
                have hdr : Hid (L.drop k = (L[k]?.getD []) :: L.drop (k + 1)) := Lib.hid (by
                  have hl : k < L.length := by rw [hL.len]; exact hlt
                  rw [List.drop_eq_getElem_cons hl]; simp [hl])
                generalize L[k]?.getD [] = y at *
                obtain ⟨n, hnn⟩ : ∃ n, n = yn := ⟨_, rfl⟩
                subst hnn
                have HCL : Hid (∀ W, Gr wr W → Calls Try.prog 69 #[.agg #[.slice ta tn tc, .slice ca cn cc], .slice ya n yc] W fun e w' => e = .returned (.int .i64 (clashI f y)) ∧ Gr W w') := Lib.hid (fun W g => clash2_any ta ca ya tn tc cn cc n yc f y W (hf.gr (gr.trans g)) HOK.out (hyi.gr g) hys)
                obtain ⟨cb, hge, hcb⟩ : ∃ cb, decide (0 ≤ clashI f y) = cb ∧ Hid ((!cb) = worksB f y) := ⟨_, rfl, Lib.hid (by unfold worksB; by_cases h : clashI f y < 0 <;> simp [h] <;> omega)⟩
                go_wp2_with fail
                refine (wpIn_wide (n := 0)).1 ?_
                refine region_inv (F := Fence.wide) (by kernel_rfl) (by rfl) (by decide) (fun _ => trivial)
                  (fun done' u W' => Kn [some (.agg #[.slice ta tn tc, .slice ca cn cc]), some (.slice (some pd) pn pc), some (.int .i64 k), some (.pointer (some (pd.add k))), some (.slice ya n yc), some (.int .i64 (clashI f y)), some (.bool cb)] done' u ∧ Gr wr W')
                  (fun u => ⟨Kn.start _ _, Gr.drew wr⟩) ⟨?_, ?_, ?_, ?_, ?_, ?_, ?_, trivial⟩ ?_
                · rintro u done' W' hd hanc hclo ⟨hk, hg⟩
                  have c_m0 := (hg.cell (lt_cell m0)).trans m0
                  have c_m1 := (hg.cell (lt_cell m1)).trans m1
                  refine op_plain (ro := none) rfl (fun c h => by cases h) fun K hK => ?_
                  simp only [fillL, List.setIfInBounds_toArray, List.set_cons_zero, List.set_cons_succ, Nat.zero_add, Nat.reduceAdd] at hK ⊢
                  go_simp
                  exact hK _ _ ⟨hk.new rfl, hg⟩
                · rintro u done' W' hd hanc hclo ⟨hk, hg⟩
                  refine op_plain (ro := none) rfl (fun c h => by cases h) fun K hK => ?_
                  simp only [fillL, List.setIfInBounds_toArray, List.set_cons_zero, List.set_cons_succ, Nat.zero_add, Nat.reduceAdd] at hK ⊢
                  go_simp
                  exact hK _ _ ⟨hk.new rfl, hg⟩
                · rintro u done' W' hd hanc hclo ⟨hk, hg⟩
                  refine op_plain (ro := none) rfl (fun c h => by cases h) fun K hK => ?_
                  simp only [fillL, List.setIfInBounds_toArray, List.set_cons_zero, List.set_cons_succ, Nat.zero_add, Nat.reduceAdd] at hK ⊢
                  go_simp
                  exact hK _ _ ⟨hk.new rfl, hg⟩
                · rintro u done' W' hd hanc hclo ⟨hk, hg⟩
                  have e1 := hk.get 1 rfl (hanc 1 (mem_of (by kernel_rfl)))
                  have e2 := hk.get 2 rfl (hanc 2 (mem_of (by kernel_rfl)))
                  refine op_plain (ro := none) rfl (fun c h => by cases h) fun K hK => ?_
                  simp only [fillL, List.setIfInBounds_toArray, List.set_cons_zero, List.set_cons_succ, Nat.zero_add, Nat.reduceAdd, e1, e2] at hK ⊢
                  go_simp
                  exact hK _ _ ⟨hk.new rfl, hg⟩
                · rintro u done' W' hd hanc hclo ⟨hk, hg⟩
                  have e3 := hk.get 3 rfl (hanc 3 (mem_of (by kernel_rfl)))
                  have c_hpc := (hg.cell (lt_cell hpc)).trans hpc
                  refine op_plain (ro := none) rfl (fun c h => by cases h) fun K hK => ?_
                  simp only [fillL, List.setIfInBounds_toArray, List.set_cons_zero, List.set_cons_succ, Nat.zero_add, Nat.reduceAdd, e3] at hK ⊢
                  go_simp
                  exact hK _ _ ⟨hk.new rfl, hg⟩
                · rintro u done' W' hd hanc hclo ⟨hk, hg⟩
                  have e0 := hk.get 0 rfl (hanc 0 (mem_of (by kernel_rfl)))
                  have e4 := hk.get 4 rfl (hanc 4 (mem_of (by kernel_rfl)))
                  have HCON := Lib.hid (HCL.out W' hg)
                  refine op_plain (ro := none) rfl (fun c h => by cases h) fun K hK => ?_
                  simp only [fillL, List.setIfInBounds_toArray, List.set_cons_zero, List.set_cons_succ, Nat.zero_add, Nat.reduceAdd, e0, e4] at hK ⊢
                  go_simp
                  refine HCON.out.mono ?_
                  rintro e w6 ⟨rfl, hg6⟩
                  exact hK _ _ ⟨hk.new rfl, hg.trans hg6⟩
                · rintro u done' W' hd hanc hclo ⟨hk, hg⟩
                  have e5 := hk.get 5 rfl (hanc 5 (mem_of (by kernel_rfl)))
                  refine op_plain (ro := none) rfl (fun c h => by cases h) fun K hK => ?_
                  simp only [fillL, List.setIfInBounds_toArray, List.set_cons_zero, List.set_cons_succ, Nat.zero_add, Nat.reduceAdd, e5] at hK ⊢
                  go_simp
                  exact hK _ _ ⟨hk.new rfl, hg⟩
                · rintro u W' ⟨done', hdn, hk, hg⟩
                  have e6 := hk.get 6 rfl (hdn 6 (by decide))
                  simp only [fillL, List.setIfInBounds_toArray, List.set_cons_zero, List.set_cons_succ, Nat.zero_add, Nat.reduceAdd, e6]
                  clear hk hdn e6
                  have G6 := gr.trans hg
                  have q0 := (hg.cell (lt_cell m0)).trans m0
                  have q1 := (hg.cell (lt_cell m1)).trans m1
                  have qpc := (hg.cell (lt_cell hpc)).trans hpc
                  have g6 := hg
                  clear HCL m0 m1 hpc
                  cases cb with
                  | true =>
                    have hwy : worksB f y = false := by simpa using hcb.out
                    have HF : Hid (cpR f xs L bu = ((k : Int), 111)) := Lib.hid (by rw [HP.out, HL.out, hdr.out]; simp [cpLoop, hwy])
                    clear hwy hcb hge
                    go_wp2_with fail
                    go_ret2
                    exact ⟨by rw [HF.out]; rfl, G6⟩
                  | false =>
                    have hwy : Hid (worksB f y = true) := Lib.hid (by simpa using hcb.out)
                    clear hcb hge
                    have HST : Hid (∀ W, Gr W' W → Calls Try.prog 70 #[.agg #[.slice ta tn tc, .slice ca cn cc], .slice qa n qc, .slice ya n yc] W fun e w' => e = .returned (.int .i64 (stepV f.times p y)) ∧ Gr W w') := Lib.hid (fun W g => step_any ta ca qa ya tn tc cn cc n qc yc f p y W (hf.gr (G6.trans g)) HOK.out (hp.gr (g6.trans g)) (hyi.gr (g6.trans g)) hps hys)
                    clear hg
                    obtain ⟨w6, hw6⟩ : ∃ w6, w6 = W' := ⟨_, rfl⟩
                    subst hw6
                    go_wp2_with fail
                    refine (wpIn_wide (n := 0)).1 ?_
                    refine region_inv (F := Fence.wide) (by kernel_rfl) (by rfl) (by decide) (fun _ => trivial)
                      (fun done' u W' => Kn [some (.agg #[.slice ta tn tc, .slice ca cn cc]), some (.slice qa n qc), some (.slice (some pd) pn pc), some (.int .i64 k), some (.pointer (some (pd.add k))), some (.slice ya n yc), some (.int .i64 (stepV f.times p y)), some (.int .i64 (stepV f.times p y))] done' u ∧ Gr w6 W')
                      (fun u => ⟨Kn.start _ _, Gr.drew w6⟩) ⟨?_, ?_, ?_, ?_, ?_, ?_, ?_, ?_, trivial⟩ ?_
                    · rintro u done' W' hd hanc hclo ⟨hk, hg⟩
                      have c_q0 := (hg.cell (lt_cell q0)).trans q0
                      have c_q1 := (hg.cell (lt_cell q1)).trans q1
                      refine op_plain (ro := none) rfl (fun c h => by cases h) fun K hK => ?_
                      simp only [fillL, List.setIfInBounds_toArray, List.set_cons_zero, List.set_cons_succ, Nat.zero_add, Nat.reduceAdd] at hK ⊢
                      go_simp
                      exact hK _ _ ⟨hk.new rfl, hg⟩
                    · rintro u done' W' hd hanc hclo ⟨hk, hg⟩
                      refine op_plain (ro := none) rfl (fun c h => by cases h) fun K hK => ?_
                      simp only [fillL, List.setIfInBounds_toArray, List.set_cons_zero, List.set_cons_succ, Nat.zero_add, Nat.reduceAdd] at hK ⊢
                      go_simp
                      exact hK _ _ ⟨hk.new rfl, hg⟩
                    · rintro u done' W' hd hanc hclo ⟨hk, hg⟩
                      refine op_plain (ro := none) rfl (fun c h => by cases h) fun K hK => ?_
                      simp only [fillL, List.setIfInBounds_toArray, List.set_cons_zero, List.set_cons_succ, Nat.zero_add, Nat.reduceAdd] at hK ⊢
                      go_simp
                      exact hK _ _ ⟨hk.new rfl, hg⟩
                    · rintro u done' W' hd hanc hclo ⟨hk, hg⟩
                      refine op_plain (ro := none) rfl (fun c h => by cases h) fun K hK => ?_
                      simp only [fillL, List.setIfInBounds_toArray, List.set_cons_zero, List.set_cons_succ, Nat.zero_add, Nat.reduceAdd] at hK ⊢
                      go_simp
                      exact hK _ _ ⟨hk.new rfl, hg⟩
                    · rintro u done' W' hd hanc hclo ⟨hk, hg⟩
                      have e2 := hk.get 2 rfl (hanc 2 (mem_of (by kernel_rfl)))
                      have e3 := hk.get 3 rfl (hanc 3 (mem_of (by kernel_rfl)))
                      refine op_plain (ro := none) rfl (fun c h => by cases h) fun K hK => ?_
                      simp only [fillL, List.setIfInBounds_toArray, List.set_cons_zero, List.set_cons_succ, Nat.zero_add, Nat.reduceAdd, e2, e3] at hK ⊢
                      go_simp
                      exact hK _ _ ⟨hk.new rfl, hg⟩
                    · rintro u done' W' hd hanc hclo ⟨hk, hg⟩
                      have e4 := hk.get 4 rfl (hanc 4 (mem_of (by kernel_rfl)))
                      have c_qpc := (hg.cell (lt_cell qpc)).trans qpc
                      refine op_plain (ro := none) rfl (fun c h => by cases h) fun K hK => ?_
                      simp only [fillL, List.setIfInBounds_toArray, List.set_cons_zero, List.set_cons_succ, Nat.zero_add, Nat.reduceAdd, e4] at hK ⊢
                      go_simp
                      exact hK _ _ ⟨hk.new rfl, hg⟩
                    · rintro u done' W' hd hanc hclo ⟨hk, hg⟩
                      have e0 := hk.get 0 rfl (hanc 0 (mem_of (by kernel_rfl)))
                      have e1 := hk.get 1 rfl (hanc 1 (mem_of (by kernel_rfl)))
                      have e5 := hk.get 5 rfl (hanc 5 (mem_of (by kernel_rfl)))
                      have HCON := Lib.hid (HST.out W' hg)
                      refine op_plain (ro := none) rfl (fun c h => by cases h) fun K hK => ?_
                      simp only [fillL, List.setIfInBounds_toArray, List.set_cons_zero, List.set_cons_succ, Nat.zero_add, Nat.reduceAdd, e0, e1, e5] at hK ⊢
                      go_simp
                      refine HCON.out.mono ?_
                      rintro e w7 ⟨rfl, hg6⟩
                      exact hK _ _ ⟨hk.new rfl, hg.trans hg6⟩
                    · rintro u done' W' hd hanc hclo ⟨hk, hg⟩
                      have e6 := hk.get 6 rfl (hanc 6 (mem_of (by kernel_rfl)))
                      refine op_plain (ro := none) rfl (fun c h => by cases h) fun K hK => ?_
                      simp only [fillL, List.setIfInBounds_toArray, List.set_cons_zero, List.set_cons_succ, Nat.zero_add, Nat.reduceAdd, e6] at hK ⊢
                      go_simp
                      exact hK _ _ ⟨hk.new rfl, hg⟩
                    · rintro u W' ⟨done', hdn, hk, hg⟩
                      have e7 := hk.get 7 rfl (hdn 7 (by decide))
                      simp only [fillL, List.setIfInBounds_toArray, List.set_cons_zero, List.set_cons_succ, Nat.zero_add, Nat.reduceAdd, e7]
                      clear hk hdn e7
                      have G7 := G6.trans hg
                      have r0 := (hg.cell (lt_cell q0)).trans q0
                      have r1 := (hg.cell (lt_cell q1)).trans q1
                      have rpc := (hg.cell (lt_cell qpc)).trans qpc
                      clear q0 q1 qpc
                      cases hsy : stepsB f.times p y bu with
                      | false =>
                        have HF : Hid (cpR f xs L bu = ((k : Int), 112)) := Lib.hid (by rw [HP.out, HL.out, hdr.out]; simp [cpLoop, hwy.out, hsy])
                        have hsv := stepsB_false HOK.out hps hys hsy
                        clear hsy
                        by_cases hneg : stepV f.times p y < 0
                        · go_wp2_with fail
                          go_ret2
                          exact ⟨by rw [HF.out]; rfl, G7⟩
                        · have hgt : bu < stepV f.times p y := by omega
                          go_wp2_with fail
                          go_ret2
                          exact ⟨by rw [HF.out]; rfl, G7⟩
                      | true =>
                        have HF : Hid (cpLoop f bu xs L 0 = cpLoop f bu y (L.drop (k + 1)) ((k + 1 : Nat) : Int)) := Lib.hid (by rw [HL.out, hdr.out]; simp [cpLoop, hwy.out, hsy])
                        have hsv := stepsB_true2 HOK.out hps hys hsy
                        have hneg : ¬ stepV f.times p y < 0 := by omega
                        have hgt : ¬ bu < stepV f.times p y := by omega
                        have hy7 := (hyi.gr g6).gr hg
                        clear hsy hsv
                        go_wp2_with fail
                        go_roundw
                        case rel => exact ⟨k + 1, y, ya, yc, by omega, by go_num, rfl, G7, hy7, hys, r0, r1, HF⟩
                        case measure => simp [intOf]; omega
              · obtain rfl : k = pn := by omega
                have HF : Hid (cpR f xs L bu = (0, 0)) := Lib.hid (by rw [HP.out, HL.out, List.drop_eq_nil_of_le (by rw [hL.len]; exact Nat.le_refl _)]; rfl)
                go_wp2_with fail
                go_ret2
                exact ⟨by rw [HF.out]; rfl, gr⟩
      · have hlb : (statesE f L != 0) = true := by simp [hl0]
        have HP : Hid (cpR f xs L bu = (0, statesE f L)) := Lib.hid (by unfold cpR; rw [HPRE.out.2.1 HST.out hl0, if_neg hl0])
        clear hl0
        go_wp2_with fail
        go_ret2
        exact ⟨by rw [HP.out]; rfl, G5⟩
  · have heb : (chkE f != 0) = true := by simp [he]
    have HP : Hid (cpR f xs L bu = (0, chkE f)) := Lib.hid (by unfold cpR cpPre; rw [if_neg he, if_neg he])
    clear he
    go_enter Try.func29, Try.ntmps29
    go_wp2_with fail
    refine HC.out.mono ?_
    rintro e w3 ⟨rfl, g3⟩
    go_wp2_with fail
    go_ret2
    exact ⟨by rw [HP.out]; rfl, g1.trans g3⟩
end
section
open Go.RowKit

/-- what a push leaves: states of the call's own -/
def KeepI (w w' : World) : Prop := ∀ (ad : Addr) (n : Nat) (y : List Int), Ints w (some ad) n y → Is3 w ad.block → Ints w' (some ad) n y ∧ Is3 w' ad.block
theorem KeepI.of_gr {w w' : World} (g : Gr w w') : KeepI w w' := fun _ _ _ h k => ⟨h.gr g, k.gr g⟩
theorem KeepI.trans {a b c : World} (h : KeepI a b) (k : KeepI b c) : KeepI a c := fun ad n y x z => k ad n y (h ad n y x z).1 (h ad n y x z).2

theorem one_cell_at {w : World} {g : Nat} {v : Value} {t : TypeId} (h : w.heap[g]? = some (.cells #[v] t)) : ∀ j u, [v][j]? = some u → w.cell? ((⟨g, 0, none⟩ : Addr).add j) = some u := by
  intro j u hj
  cases j with
  | zero => simp at hj; subst hj; exact cell_at h rfl
  | succ j => simp at hj

/-- append of one state to the list that a call collects -/
theorem wp_push {o : Oper} {a : Act} {w1 W : World} {K : Act → World → Prop} {Q : Exit → Act → World → Prop} {s x : Operand} {v : Value} {L : List (List Int)} {ad : Addr} {n c g : Nat} {y : List Int}
    (ho : o.op = .call { callee := .builtin .append, args := #[s, x], argTypes := #[22, 22] }) (hs : a.eval s = v) (hx : a.eval x = .slice (some ⟨g, 0, none⟩) 1 1)
    (hg : W.heap[g]? = some (.cells #[.slice (some ad) n c] 26)) (hO : OutR W w1.heap.size v L) (h1 : Gr w1 W) (hy : Ints W (some ad) n y) (h3 : Is3 W ad.block) (hl : L.length ≤ 1000000)
    (h : ∀ v' w', OutR w' w1.heap.size v' (L ++ [y]) → Gr w1 w' → KeepI W w' → K (a.put o.dst v') w') : o.wp Try.prog a W K Q := by
  obtain ⟨i0, hi, hz0, hz1, hz2⟩ := info_parts Try.info26
  obtain ⟨ov, hown, hrw⟩ := hO
  refine wp_append_own W s x 22 ho w1.heap.size 26 i0 (.slice none 0 0) 1 24 Try.underlying22 hi hz0 hz1 hz2 rfl (by decide) v L.length ov hs hown ⟨g, 0, none⟩ 1 1 [.slice (some ad) n c] hx rfl (one_cell_at hg) (one_one _ _ _) (by unfold maxLen; omega) (by omega) h1.size (fun v' w' hown' hgrow _ => ?_)
  have hO' := only_grown hgrow
  have hb : ∀ b, v.ownBlock = some b → w1.heap.size ≤ b ∧ ¬ Is3 W b := fun b e => own_block hown e
  refine h v' w' (OutR.push hown hrw hy h3 hown' hgrow) (((h1.only (fun b => w1.heap.size ≤ b)).trans (hO'.mono' (fun i e => (hb i e).1))).gr (fun i hi e => by omega)) (fun ad' n' y' hi' h3' => ?_)
  exact ⟨hi'.onlyAt hO' (fun ad2 e he => by cases e; exact (hb _ he).2 h3'), h3'.only hO' (fun he => (hb _ he).2 h3')⟩

theorem wpList_push {ops : Array Oper} {rest : List Oper} {o : Oper} {a : Act} {w1 W : World} {Q : Exit → Act → World → Prop} (hgd : o.guard = none) {s x : Operand} {v : Value} {L : List (List Int)} {ad : Addr} {n c g : Nat} {y : List Int}
    (ho : o.op = .call { callee := .builtin .append, args := #[s, x], argTypes := #[22, 22] }) (hs : a.eval s = v) (hx : a.eval x = .slice (some ⟨g, 0, none⟩) 1 1)
    (hg : W.heap[g]? = some (.cells #[.slice (some ad) n c] 26)) (hO : OutR W w1.heap.size v L) (h1 : Gr w1 W) (hy : Ints W (some ad) n y) (h3 : Is3 W ad.block) (hl : L.length ≤ 1000000)
    (h : ∀ v' w', OutR w' w1.heap.size v' (L ++ [y]) → Gr w1 w' → KeepI W w' → wpList Try.prog ops Q rest (a.put o.dst v') w') : wpList Try.prog ops Q (o :: rest) a W :=
  wpList_plain hgd fun K hK => wp_push ho hs hx hg hO h1 hy h3 hl (fun v' w' k1 k2 k3 => hK _ _ (h v' w' k1 k2 k3))

/-- 'append([]int(nil), xs...)' of some numbers -/
theorem wp_copy {o : Oper} {a : Act} {W : World} {K : Act → World → Prop} {Q : Exit → Act → World → Prop} {s x : Operand} {sa : Option Addr} {n c : Nat} {y : List Int}
    (ho : o.op = .call { callee := .builtin .append, args := #[s, x], argTypes := #[26, 26] }) (hs : a.eval s = .slice none 0 0) (hx : a.eval x = .slice sa n c) (hy : Ints W sa n y) (h0 : 0 < n) (hn : n ≤ 1000000)
    (h : ∀ g c' w', Ints w' (some ⟨g, 0, none⟩) n y → Is3 w' g → W.heap.size ≤ g → Gr W w' → K (a.put o.dst (.slice (some ⟨g, 0, none⟩) n c')) w') : o.wp Try.prog a W K Q := by
  obtain ⟨ad, rfl, hab, _⟩ := hy.at h0
  obtain ⟨i0, hi, hz0, hz1, hz2⟩ := info_parts Try.info3
  refine wp_append_own W s x 26 ho W.heap.size 3 i0 (.int .i64 0) 1 8 Try.underlying26 hi hz0 hz1 hz2 rfl (by decide) _ 0 [] hs (World.ownsRow_nil W _ 3 1) ad n c (y.map (Value.int .i64)) hx (by rw [List.length_map, hy.len, Nat.mul_one]) hy.cells (ints_one y) (by unfold maxLen; omega) (by omega) (Nat.le_refl _) (fun v' w' hown' hgrow _ => ?_)
  have hown2 : w'.ownsRow W.heap.size 3 1 v' n (y.map (Value.int .i64)) := by simpa using hown'
  obtain ⟨g, c', rfl, hge, _, hint, his3⟩ := ints_own hy.len (by omega) hown2 h0
  exact h g c' w' hint his3 hge ((only_grown hgrow).gr (fun i hi e => by simp [Value.ownBlock] at e))

theorem wpList_copy {ops : Array Oper} {rest : List Oper} {o : Oper} {a : Act} {W : World} {Q : Exit → Act → World → Prop} (hgd : o.guard = none) {s x : Operand} {sa : Option Addr} {n c : Nat} {y : List Int}
    (ho : o.op = .call { callee := .builtin .append, args := #[s, x], argTypes := #[26, 26] }) (hs : a.eval s = .slice none 0 0) (hx : a.eval x = .slice sa n c) (hy : Ints W sa n y) (h0 : 0 < n) (hn : n ≤ 1000000)
    (h : ∀ g c' w', Ints w' (some ⟨g, 0, none⟩) n y → Is3 w' g → W.heap.size ≤ g → Gr W w' → wpList Try.prog ops Q rest (a.put o.dst (.slice (some ⟨g, 0, none⟩) n c')) w') : wpList Try.prog ops Q (o :: rest) a W :=
  wpList_plain hgd fun K hK => wp_copy ho hs hx hy h0 hn (fun g c' w' k1 k2 k3 k4 => hK _ _ (h g c' w' k1 k2 k3 k4))

/-- a list of states from its j-th on -/
theorem RowsAt.tail1 {w : World} {ad : Addr} {n : Nat} {s : List Int} {L : List (List Int)} (h : RowsAt w (some ad) (n + 1) (s :: L)) : RowsAt w (some (ad.add 1)) n L := by
  refine ⟨by have := h.len; simpa using this, by have := h.lt; omega, fun j hj => ?_⟩
  obtain ⟨ad', a', n', c', e, hb, hc, hi⟩ := h.at (j := j + 1) (by omega)
  cases e
  refine ⟨ad.add 1, a', n', c', rfl, by rw [add_block]; exact hb, ?_, by simpa using hi⟩
  rw [Go.Deep.add_add, Nat.add_comm]; exact hc
theorem RowsAt.take {w : World} {a : Option Addr} {n : Nat} {L : List (List Int)} (h : RowsAt w a n L) {d : Nat} (hd : d ≤ n) : RowsAt w a d (L.take d) := by
  refine ⟨by have := h.len; simp; omega, by have := h.lt; omega, fun j hj => ?_⟩
  obtain ⟨ad', a', n', c', e, hb, hc, hi⟩ := h.at (j := j) (by omega)
  exact ⟨ad', a', n', c', e, hb, hc, by rw [List.getElem?_take_of_lt hj]; exact hi⟩

/-- the states of an update whose parked times are interrupted -/
def intr (T : List (List Int)) : List Int → List (List Int) → List Int → List (List Int)
  | _, _, [] => []
  | cur, [], _ :: r => cur :: intr T cur [] r
  | cur, s :: p, n :: r => if dur T cur s ≤ n then s :: intr T s p r else cur :: intr T cur (s :: p) r
def intE (f : Fl) (xs : List Int) (L : List (List Int)) (bu : Int) (ms : List Int) : Int := if (cpR f xs L bu).2 = 0 then (if 64 < ms.length then 1 else if ms.any (fun n => decide (n < 0)) then 1 else 0) else (cpR f xs L bu).2
def intV (f : Fl) (xs : List Int) (L : List (List Int)) (bu : Int) (ms : List Int) : List (List Int) := if intE f xs L bu ms = 0 then intr f.times xs L ms else []

/-- the first d states of a way, from the last one on -/
def bk (xs : List Int) (L : List (List Int)) : Nat → List (List Int)
  | 0 => []
  | d + 1 => pAt xs L d :: bk xs L d
def backE (f : Fl) (xs : List Int) (L : List (List Int)) (bu d : Int) : Int := if (cpR f xs L bu).2 = 0 then (if withinB d 0 L.length then 0 else 1) else (cpR f xs L bu).2
def backV (f : Fl) (xs : List Int) (L : List (List Int)) (bu d : Int) : List (List Int) := if backE f xs L bu d = 0 then bk xs L d.toNat else []

theorem PlOk.tail {f : Fl} {bu : Int} {xs s : List Int} {L : List (List Int)} (h : PlOk f bu xs (s :: L)) : PlOk f bu s L :=
  ⟨h.ok, by simpa using h.l 0 (by simp), fun j hj => by simpa using h.l (j + 1) (by simp; omega), h.pl.2.2, by have := h.n64; simp at this; omega⟩
theorem PlOk.step {f : Fl} {bu : Int} {xs s : List Int} {L : List (List Int)} (h : PlOk f bu xs (s :: L)) : stepsB f.times xs s bu = true ∧ StOk f s := ⟨h.pl.2.1, by simpa using h.l 0 (by simp)⟩
theorem PlOk.nil {f : Fl} {bu : Int} {xs s : List Int} {L : List (List Int)} (h : PlOk f bu xs (s :: L)) : PlOk f bu xs [] := ⟨h.ok, h.a, fun j hj => by simp at hj, trivial, by simp⟩

/-- what the list of a call is, where it returns -/
theorem OutR.post {w wr : World} {B : Nat} {v : Value} {L : List (List Int)} {code : Int} (h : OutR wr B v L) (g : Gr w wr) (hl : L.length < 1152921504606846976) : PlanPost w L code (.returned (.tuple #[v, .int .i64 code])) wr := by
  obtain ⟨a, c, rfl, hr, hc⟩ := h.rows hl
  exact ⟨a, _, c, rfl, hr, g, hc⟩
end
section
open Go.RowKit

theorem run_take (w : World) (pa : Option Addr) (n c k : Nat) (hk : k ≤ c) : (Instr.slice 22 (.slice pa n c) none (some (.int .i64 k)) none).run Try.prog w = .ok (.slice pa k c) w := by
  have hu := Try.underlying22
  have ha : ∀ a : Addr, a.add 0 = a := fun a => by unfold Addr.add; rfl
  have hm : pa.map (fun a => a.add 0) = pa := by cases pa <;> simp [ha]
  have h1 : (0 : Int) ≤ k ∧ (k : Int) ≤ c := by omega
  obtain ⟨i0, hi, hz0, hz1, hz2⟩ := info_parts Try.info26
  simp [Instr.slice, Instr.sliceBounds, Instr.sliceBound, underlying, hu, sizeOf, hi, hz1, asIntOf, h1, hm, go_sem]
  intro h; omega

/-- append of the first states of a plan to a new list of one state -/
theorem wpList_front {ops : Array Oper} {rest : List Oper} {o : Oper} {a : Act} {w3 W : World} {Q : Exit → Act → World → Prop} (hgd : o.guard = none) {s x : Operand} {sa pa : Option Addr} {n c pn pc g : Nat} {xs : List Int} {L : List (List Int)}
    (ho : o.op = .call { callee := .builtin .append, args := #[s, x], argTypes := #[22, 22] }) (hs : a.eval s = .slice (some ⟨g, 0, none⟩) 1 1) (hx : a.eval x = .slice pa pn pc)
    (hg : W.heap[g]? = some (.cells #[.slice sa n c] 26 (0, 0))) (hge : w3.heap.size ≤ g) (hgr : Gr w3 W) (hi : Ints w3 sa n xs) (hL : RowsAt w3 pa pn L) (h64 : pn ≤ 64)
    (h : ∀ ra rc w6, RowsAt w6 ra (pn + 1) (xs :: L) → Gr w3 w6 → wpList Try.prog ops Q rest (a.put o.dst (.slice ra (pn + 1) rc)) w6) : wpList Try.prog ops Q (o :: rest) a W :=
  wpList_plain hgd fun K hK => cp_append ho hs hx hg hge hgr hi hL h64 (fun ra rc w6 k1 k2 => hK _ _ (h ra rc w6 k1 k2))

set_option maxRecDepth 100000 in
set_option maxHeartbeats 4000000 in
theorem back_any (ta ca a pa : Option Addr) (tn tc cn cc n c pn pc : Nat) (f : Fl) (xs : List Int) (L : List (List Int)) (bu dn : Int) (w : World) (hf : FlAt w ta tn ca cn f) (hx : Ints w a n xs) (hL : RowsAt w pa pn L) (hpc : pn ≤ pc) :
    Calls Try.prog 32 #[.agg #[.slice ta tn tc, .slice ca cn cc], .slice a n c, .slice pa pn pc, .int .i64 bu, .int .i64 dn] w (PlanPost w (backV f xs L bu dn) (backE f xs L bu dn)) := by
  have g1 := Gr.alloc w (.cells #[.slice ta tn tc, .slice ca cn cc] 25)
  have c0 := cell_new (w := w) (t := 25) (cs := #[.slice ta tn tc, .slice ca cn cc]) (j := 0) rfl
  have c1 := cell_new (w := w) (t := 25) (cs := #[.slice ta tn tc, .slice ca cn cc]) (j := 1) rfl
  obtain ⟨w1, hw1⟩ : ∃ w1, w.alloc (.cells #[.slice ta tn tc, .slice ca cn cc] 25) = w1 := ⟨_, rfl⟩
  rw [hw1] at g1 c0 c1
  have HC := Lib.hid (checkPlan_any ta ca a pa tn tc cn cc n c pn pc f xs L bu w1 (hf.gr g1) (hx.gr g1) (hL.gr g1))
  by_cases he : (cpR f xs L bu).2 = 0
  · have heb : ((cpR f xs L bu).2 != 0) = false := by simp [he]
    have HE : Hid (backE f xs L bu dn = (if withinB dn 0 L.length then 0 else 1)) := Lib.hid (by unfold backE; rw [if_pos he])
    have hpl := cpR_pl he
    have HPL := Lib.hid hpl
    have hn1 : 0 < n := by have := hpl.ok.n1; have := hpl.a.len; have := hx.len; omega
    have hn6 : n ≤ 6 := by have := hpl.ok.n6; have := hpl.a.len; have := hx.len; omega
    have hp64 : pn ≤ 64 := by have := hpl.n64; have := hL.len; omega
    have hPN := Lib.hid hL.len
    clear he hpl
    cases hb : withinB dn 0 pn with
    | false =>
      have HP : Hid (backE f xs L bu dn = 1 ∧ backV f xs L bu dn = []) := Lib.hid (by
        have : backE f xs L bu dn = 1 := by rw [HE.out, hL.len, hb]; rfl
        exact ⟨this, by unfold backV; rw [this]; rfl⟩)
      have HWI := Lib.hid (show ∀ W, Calls Try.prog 61 #[.int .i64 dn, .int .i64 0, .int .i64 pn] W fun e w' => e = .returned (.bool false) ∧ W = w' from fun W => hb ▸ within_any dn 0 pn W)
      clear hb
      go_enter Try.func32, Try.ntmps32
      go_wp2_with fail
      refine HC.out.mono ?_
      rintro e w3 ⟨rfl, g3⟩
      go_wp2_with fail
      refine (HWI.out _).mono ?_
      rintro e w' ⟨rfl, rfl⟩
      go_wp2_with fail
      go_ret2
      exact ⟨none, 0, 0, by rw [HP.out.1]; rfl, by rw [HP.out.2]; exact RowsAt.nil _, g1.trans g3, Nat.le_refl _⟩
    | true =>
      obtain ⟨d, rfl, hdp⟩ : ∃ d : Nat, dn = d ∧ d ≤ pn := by
        simp [withinB] at hb
        exact ⟨dn.toNat, by omega, by omega⟩
      have HP : Hid (backE f xs L bu d = 0 ∧ backV f xs L bu d = bk xs L d) := Lib.hid (by
        have : backE f xs L bu d = 0 := by rw [HE.out, hL.len, hb]; rfl
        exact ⟨this, by unfold backV; rw [this]; rfl⟩)
      have HWI := Lib.hid (show ∀ W, Calls Try.prog 61 #[.int .i64 d, .int .i64 0, .int .i64 pn] W fun e w' => e = .returned (.bool true) ∧ W = w' from fun W => hb ▸ within_any d 0 pn W)
      clear hb HE
      go_enter Try.func32, Try.ntmps32
      go_wp2_with fail
      refine HC.out.mono ?_
      rintro e w3 ⟨rfl, g3⟩
      have G3 := g1.trans g3
      have hx3 := hx.gr G3
      have hL3 := hL.gr G3
      clear hw1 c0 c1 HC g1 g3
      have hsl := run_take w3 pa pn pc d (by omega)
      have g4 := Gr.alloc w3 (.cells #[.slice a n c] 26)
      have hg4 := heap_alloc_new w3 (.cells #[.slice a n c] 26)
      have hsl4 := run_take (w3.alloc (.cells #[.slice a n c] 26)) pa pn pc d (by omega)
      have hLd : RowsAt w3 pa d (L.take d) := hL3.take hdp
      go_wp2_with fail
      refine (HWI.out _).mono ?_
      rintro e w' ⟨rfl, rfl⟩
      clear HWI
      go_wp2_with (at_builtin; refine wpList_front rfl rfl rfl rfl hg4 (Nat.le_refl _) g4 hx3 hLd (by omega) ?_; intro ra rc w5 hA g5)
      clear hg4 g4 hsl hsl4 hLd
      go_wp2_with fail
      go_loopw [10, 15] (fun o i wr => ∃ (k : Nat) (Lo : List (List Int)), k ≤ d ∧ i = .int .i64 ((k : Int) - 1) ∧ Gr w5 wr ∧ OutR wr w5.heap.size o Lo ∧ Lo.length = d - k ∧ Hid (Lo ++ bk xs L k = bk xs L d)) (fun _ i _ => (intOf i + 1).toNat)
      case atStart => exact ⟨d, [], Nat.le_refl _, rfl, Gr.refl _, OutR.nil _ _, by simp, Lib.hid rfl⟩
      case round =>
        obtain ⟨k, Lo, hk, rfl, gr, hO, hlo, HT⟩ := hrel
        cases k with
        | zero =>
          have hz : (((0 : Nat) : Int) - 1) = -1 := rfl
          rw [hz]
          have HF : Hid (Lo = backV f xs L bu d) := Lib.hid (by rw [HP.out.2, ← HT.out]; simp [bk])
          clear hz
          go_wp2_with fail
          go_ret2
          rw [← HF.out, HP.out.1]
          exact hO.post ((G3.trans g5).trans gr) (by omega)
        | succ m =>
          have hz : (((m + 1 : Nat) : Int) - 1) = (m : Int) := by omega
          rw [hz]
          obtain ⟨pd, qa, qn, qc, rfl, hpb, hpcell, hqi⟩ := (hA.gr gr).at (j := m) (by omega)
          have hqv : ((xs :: L.take d)[m]?.getD []) = pAt xs L m := by
            unfold pAt
            cases m with
            | zero => rfl
            | succ m => simp only [List.getElem?_cons_succ]; rw [List.getElem?_take_of_lt (by omega)]
          rw [hqv] at hqi
          have hqn : qn = n := by
            have := (HPL.out.at (k := m) (by have := hPN.out; omega)).len
            have := HPL.out.a.len; have := hx.len; have := hqi.len; omega
          subst hqn
          have HT2 : Hid ((Lo ++ [pAt xs L m]) ++ bk xs L m = bk xs L d) := Lib.hid (by rw [← HT.out]; simp [bk])
          generalize pAt xs L m = q at *
          obtain ⟨qd, rfl, _, _⟩ := hqi.at hn1
          have HCN := Lib.hid (clone_any (some qd) qn qc q wr hqi hn1 (by omega))
          have hlc := hqi.len
          clear hqv hz
          go_wp2_with fail
          refine HCN.out.mono ?_
          rintro e w9 ⟨g9, gc, rfl, hge9, hgi, hg9, hg3⟩
          rw [hlc] at hgi ⊢
          have G9 := gr.trans hg9
          have hO9 := hO.gr (hg9.allocR (.cells #[.slice (some ⟨g9, 0, none⟩) qn gc] 26))
          have hy9 := hgi.gr (Gr.alloc w9 (.cells #[.slice (some ⟨g9, 0, none⟩) qn gc] 26))
          have h39 := hg3.gr (Gr.alloc w9 (.cells #[.slice (some ⟨g9, 0, none⟩) qn gc] 26))
          have G10 := G9.allocR (.cells #[.slice (some ⟨g9, 0, none⟩) qn gc] 26)
          have hg10 := heap_alloc_new w9 (.cells #[.slice (some ⟨g9, 0, none⟩) qn gc] 26)
          clear HCN hgi hg3 hg9
          go_wp2_with (at_builtin; refine wpList_push rfl rfl rfl rfl hg10 hO9 G10 hy9 h39 (by omega) ?_; intro v' w11 hO11 G11 _)
          clear hO9 hy9 h39 G10 hg10
          go_wp2_with fail
          go_roundw
          case rel => exact ⟨m, Lo ++ [q], by omega, rfl, G11, hO11, by simp only [List.length_append, List.length_singleton, hlo]; omega, HT2⟩
          case measure => simp [intOf] <;> omega
  · have heb : ((cpR f xs L bu).2 != 0) = true := by simp [he]
    have HP : Hid (backE f xs L bu dn = (cpR f xs L bu).2 ∧ backV f xs L bu dn = []) := Lib.hid (by
      have : backE f xs L bu dn = (cpR f xs L bu).2 := by unfold backE; rw [if_neg he]
      exact ⟨this, by unfold backV; rw [this, if_neg he]⟩)
    clear he
    go_enter Try.func32, Try.ntmps32
    go_wp2_with fail
    refine HC.out.mono ?_
    rintro e w3 ⟨rfl, g3⟩
    go_wp2_with fail
    go_ret2
    exact ⟨none, 0, 0, by rw [HP.out.1]; rfl, by rw [HP.out.2]; exact RowsAt.nil _, g1.trans g3, Nat.le_refl _⟩

set_option maxRecDepth 100000 in
set_option maxHeartbeats 4000000 in
theorem back2_any (ta ca a pa : Option Addr) (tn tc cn cc n c pn pc : Nat) (f : Fl) (xs : List Int) (L : List (List Int)) (bu dn : Int) (w : World) (hf : FlAt w ta tn ca cn f) (hx : Ints w a n xs) (hL : RowsAt w pa pn L) :
    Calls Try.prog 33 #[.agg #[.slice ta tn tc, .slice ca cn cc], .slice a n c, .slice pa pn pc, .int .i64 bu, .int .i64 dn] w (PlanPost w (backV f xs L bu dn) (backE f xs L bu dn)) := by
  have g1 := Gr.alloc w (.cells #[.slice ta tn tc, .slice ca cn cc] 25)
  have c0 := cell_new (w := w) (t := 25) (cs := #[.slice ta tn tc, .slice ca cn cc]) (j := 0) rfl
  have c1 := cell_new (w := w) (t := 25) (cs := #[.slice ta tn tc, .slice ca cn cc]) (j := 1) rfl
  obtain ⟨w1, hw1⟩ : ∃ w1, w.alloc (.cells #[.slice ta tn tc, .slice ca cn cc] 25) = w1 := ⟨_, rfl⟩
  rw [hw1] at g1 c0 c1
  have HC := Lib.hid (checkPlan2_any ta ca a pa tn tc cn cc n c pn pc f xs L bu w1 (hf.gr g1) (hx.gr g1) (hL.gr g1))
  by_cases he : (cpR f xs L bu).2 = 0
  · have heb : ((cpR f xs L bu).2 != 0) = false := by simp [he]
    have HE : Hid (backE f xs L bu dn = (if withinB dn 0 L.length then 0 else 1)) := Lib.hid (by unfold backE; rw [if_pos he])
    have hpl := cpR_pl he
    have HPL := Lib.hid hpl
    have hn1 : 0 < n := by have := hpl.ok.n1; have := hpl.a.len; have := hx.len; omega
    have hn6 : n ≤ 6 := by have := hpl.ok.n6; have := hpl.a.len; have := hx.len; omega
    have hp64 : pn ≤ 64 := by have := hpl.n64; have := hL.len; omega
    have hPN := Lib.hid hL.len
    clear he hpl
    cases hb : withinB dn 0 pn with
    | false =>
      have HP : Hid (backE f xs L bu dn = 1 ∧ backV f xs L bu dn = []) := Lib.hid (by
        have : backE f xs L bu dn = 1 := by rw [HE.out, hL.len, hb]; rfl
        exact ⟨this, by unfold backV; rw [this]; rfl⟩)
      have HWI := Lib.hid (show ∀ W, Calls Try.prog 63 #[.int .i64 dn, .int .i64 0, .int .i64 pn] W fun e w' => e = .returned (.bool false) ∧ W = w' from fun W => hb ▸ within2_any dn 0 pn W)
      clear hb
      go_enter Try.func33, Try.ntmps33
      go_wp2_with fail
      refine HC.out.mono ?_
      rintro e w3 ⟨rfl, g3⟩
      go_wp2_with fail
      refine (HWI.out _).mono ?_
      rintro e w' ⟨rfl, rfl⟩
      go_wp2_with fail
      go_ret2
      exact ⟨none, 0, 0, by rw [HP.out.1]; rfl, by rw [HP.out.2]; exact RowsAt.nil _, g1.trans g3, Nat.le_refl _⟩
    | true =>
      obtain ⟨d, rfl, hdp⟩ : ∃ d : Nat, dn = d ∧ d ≤ pn := by
        simp [withinB] at hb
        exact ⟨dn.toNat, by omega, by omega⟩
      have HP : Hid (backE f xs L bu d = 0 ∧ backV f xs L bu d = bk xs L d) := Lib.hid (by
        have : backE f xs L bu d = 0 := by rw [HE.out, hL.len, hb]; rfl
        exact ⟨this, by unfold backV; rw [this]; rfl⟩)
      have HWI := Lib.hid (show ∀ W, Calls Try.prog 63 #[.int .i64 d, .int .i64 0, .int .i64 pn] W fun e w' => e = .returned (.bool true) ∧ W = w' from fun W => hb ▸ within2_any d 0 pn W)
      clear hb HE
      go_enter Try.func33, Try.ntmps33
      go_wp2_with fail
      refine HC.out.mono ?_
      rintro e w3 ⟨rfl, g3⟩
      have G3 := g1.trans g3
      have hx3 := hx.gr G3
      have hL3 := hL.gr G3
      clear hw1 c0 c1 HC g1 g3
      go_wp2_with fail
      refine (HWI.out _).mono ?_
      rintro e w' ⟨rfl, rfl⟩
      clear HWI
      go_wp2_with fail
      go_loopw [14, 15] (fun o i wr => ∃ (k : Nat) (Lo : List (List Int)), k ≤ d ∧ (k = 0 → d = 0) ∧ i = .int .i64 ((k : Int) - 2) ∧ Gr w3 wr ∧ OutR wr w3.heap.size o Lo ∧ Lo.length = d - k ∧ Hid (Lo ++ bk xs L k = bk xs L d)) (fun _ i _ => (intOf i + 1).toNat)
      case atStart => exact ⟨d, [], Nat.le_refl _, fun h => h, rfl, Gr.refl _, OutR.nil _ _, by simp, Lib.hid rfl⟩
      case round =>
        obtain ⟨k, Lo, hk, hk0, rfl, gr, hO, hlo, HT⟩ := hrel
        match k with
        | 0 =>
          obtain rfl : d = 0 := hk0 rfl
          have hz : (((0 : Nat) : Int) - 2) = -2 := rfl
          rw [hz]
          have HP0 : Hid (backE f xs L bu 0 = 0 ∧ backV f xs L bu 0 = bk xs L 0) := Lib.hid (by have := HP.out; simpa using this)
          have HF : Hid (Lo = backV f xs L bu 0) := Lib.hid (by rw [HP0.out.2, ← HT.out]; simp [bk])
          have hd0 : ¬ (0 : Int) < ((0 : Nat) : Int) := by omega
          clear hz hk0
          go_wp2_with fail
          go_ret2
          rw [← HF.out, HP0.out.1]
          exact hO.post (G3.trans gr) (by omega)
        | 1 =>
          have hz : (((1 : Nat) : Int) - 2) = -1 := rfl
          rw [hz]
          have hd0 : (0 : Int) < (d : Int) := by omega
          have HF : Hid (Lo ++ [xs] = backV f xs L bu d) := Lib.hid (by rw [HP.out.2, ← HT.out]; simp [bk, pAt])
          have hxr := hx3.gr gr
          clear hz hk0
          go_wp2_with (first | (at_builtin; refine wpList_copy rfl rfl rfl rfl hxr hn1 (by omega) ?_; intro g8 gc w9 hgi hg3 hge9 hg9; have G9 := gr.trans hg9; have hO9 := hO.gr (hg9.allocR (.cells #[.slice (some ⟨g8, 0, none⟩) n gc] 26)); have hy9 := hgi.gr (Gr.alloc w9 (.cells #[.slice (some ⟨g8, 0, none⟩) n gc] 26)); have h39 := hg3.gr (Gr.alloc w9 (.cells #[.slice (some ⟨g8, 0, none⟩) n gc] 26)); have G10 := G9.allocR (.cells #[.slice (some ⟨g8, 0, none⟩) n gc] 26); have hg10 := heap_alloc_new w9 (.cells #[.slice (some ⟨g8, 0, none⟩) n gc] 26); clear hgi hg3 hg9) | (at_builtin; refine wpList_push rfl rfl rfl rfl hg10 hO9 G10 hy9 h39 (by omega) ?_; intro v' w11 hO11 G11 _))
          clear hO9 hy9 h39 G10 hg10
          go_wp2_with fail
          go_ret2
          rw [← HF.out, HP.out.1]
          exact hO11.post (G3.trans G11) (by simp; omega)
        | m + 2 =>
          have hz : (((m + 2 : Nat) : Int) - 2) = (m : Int) := by omega
          rw [hz]
          obtain ⟨pd, qa, qn, qc, rfl, hpb, hpcell, hqi⟩ := (hL3.gr gr).at (j := m) (by omega)
          have hqv : (L[m]?.getD []) = pAt xs L (m + 1) := by simp [pAt]
          rw [hqv] at hqi
          have hqn : qn = n := by
            have := (HPL.out.at (k := m + 1) (by have := hPN.out; omega)).len
            have := HPL.out.a.len; have := hx.len; have := hqi.len; omega
          subst hqn
          have HT2 : Hid ((Lo ++ [pAt xs L (m + 1)]) ++ bk xs L (m + 1) = bk xs L d) := Lib.hid (by rw [← HT.out]; simp [bk])
          generalize pAt xs L (m + 1) = q at *
          have hm1 : (((m + 1 : Nat) : Int) - 2) = (m : Int) - 1 := by omega
          have HM1 := Lib.hid hm1
          clear hqv hz hk0 hm1
          go_wp2_with (first | (at_builtin; refine wpList_copy rfl rfl rfl rfl hqi hn1 (by omega) ?_; intro g8 gc w9 hgi hg3 hge9 hg9; have G9 := gr.trans hg9; have hO9 := hO.gr (hg9.allocR (.cells #[.slice (some ⟨g8, 0, none⟩) qn gc] 26)); have hy9 := hgi.gr (Gr.alloc w9 (.cells #[.slice (some ⟨g8, 0, none⟩) qn gc] 26)); have h39 := hg3.gr (Gr.alloc w9 (.cells #[.slice (some ⟨g8, 0, none⟩) qn gc] 26)); have G10 := G9.allocR (.cells #[.slice (some ⟨g8, 0, none⟩) qn gc] 26); have hg10 := heap_alloc_new w9 (.cells #[.slice (some ⟨g8, 0, none⟩) qn gc] 26); clear hgi hg3 hg9) | (at_builtin; refine wpList_push rfl rfl rfl rfl hg10 hO9 G10 hy9 h39 (by omega) ?_; intro v' w11 hO11 G11 _))
          clear hO9 hy9 h39 G10 hg10
          go_wp2_with fail
          go_roundw
          case rel => exact ⟨m + 1, Lo ++ [q], by omega, fun h => by omega, by rw [HM1.out], G11, hO11, by simp only [List.length_append, List.length_singleton, hlo]; omega, HT2⟩
          case measure => simp [intOf] <;> omega
  · have heb : ((cpR f xs L bu).2 != 0) = true := by simp [he]
    have HP : Hid (backE f xs L bu dn = (cpR f xs L bu).2 ∧ backV f xs L bu dn = []) := Lib.hid (by
      have : backE f xs L bu dn = (cpR f xs L bu).2 := by unfold backE; rw [if_neg he]
      exact ⟨this, by unfold backV; rw [this, if_neg he]⟩)
    clear he
    go_enter Try.func33, Try.ntmps33
    go_wp2_with fail
    refine HC.out.mono ?_
    rintro e w3 ⟨rfl, g3⟩
    go_wp2_with fail
    go_ret2
    exact ⟨none, 0, 0, by rw [HP.out.1]; rfl, by rw [HP.out.2]; exact RowsAt.nil _, g1.trans g3, Nat.le_refl _⟩
end
section
open Go.RowKit

theorem Try.info46 : (Try.prog.info? 46).map (fun i => (i.zero, i.size, i.bytes)) = some (some (.agg #[.int .i64 0, .int .i64 0, .string ⟨#[]⟩, .int .i64 0]), 4, 40) := by kernel_rfl
/-- a packet -/
structure Pk where
  c : Int
  v : Int
  data : ByteArray
  tg : Int
instance : Inhabited Pk := ⟨⟨0, 0, ⟨#[]⟩, 0⟩⟩
def Pk.val (p : Pk) : Value := .agg #[.int .i64 p.c, .int .i64 p.v, .string p.data, .int .i64 p.tg]

def PkAt (w : World) (a : Option Addr) (n : Nat) (P : List Pk) : Prop :=
  P.length = n ∧ n < 1152921504606846976 ∧ ∀ j, j < n → ∃ ad, a = some ad ∧ ad.block < w.heap.size ∧ (P[j]?.getD default).data.size < 1152921504606846976 ∧
    w.cell? (ad.add (j * 4)) = some (.int .i64 (P[j]?.getD default).c) ∧ w.cell? ⟨(ad.add (j * 4)).block, (ad.add (j * 4)).off + 1, none⟩ = some (.int .i64 (P[j]?.getD default).v) ∧
    w.cell? ⟨(ad.add (j * 4)).block, (ad.add (j * 4)).off + 2, none⟩ = some (.string (P[j]?.getD default).data) ∧ w.cell? ⟨(ad.add (j * 4)).block, (ad.add (j * 4)).off + 3, none⟩ = some (.int .i64 (P[j]?.getD default).tg)
theorem PkAt.len {w : World} {a : Option Addr} {n : Nat} {P : List Pk} (h : PkAt w a n P) : P.length = n := h.1
theorem PkAt.lt {w : World} {a : Option Addr} {n : Nat} {P : List Pk} (h : PkAt w a n P) : n < 1152921504606846976 := h.2.1
theorem PkAt.at {w : World} {a : Option Addr} {n : Nat} {P : List Pk} (h : PkAt w a n P) {j : Nat} (hj : j < n) : ∃ ad, a = some ad ∧ ad.block < w.heap.size ∧ (P[j]?.getD default).data.size < 1152921504606846976 ∧
    w.cell? (ad.add (j * 4)) = some (.int .i64 (P[j]?.getD default).c) ∧ w.cell? ⟨(ad.add (j * 4)).block, (ad.add (j * 4)).off + 1, none⟩ = some (.int .i64 (P[j]?.getD default).v) ∧
    w.cell? ⟨(ad.add (j * 4)).block, (ad.add (j * 4)).off + 2, none⟩ = some (.string (P[j]?.getD default).data) ∧ w.cell? ⟨(ad.add (j * 4)).block, (ad.add (j * 4)).off + 3, none⟩ = some (.int .i64 (P[j]?.getD default).tg) := h.2.2 j hj
theorem PkAt.gr {w w' : World} {a : Option Addr} {n : Nat} {P : List Pk} (h : PkAt w a n P) (g : Gr w w') : PkAt w' a n P :=
  ⟨h.1, h.2.1, fun j hj => by
    obtain ⟨ad, e, hb, hd, h0, h1, h2, h3⟩ := h.2.2 j hj
    exact ⟨ad, e, Nat.lt_of_lt_of_le hb g.size, hd, (g.cell (lt_cell h0)).trans h0, (g.cell (lt_cell h1)).trans h1, (g.cell (lt_cell h2)).trans h2, (g.cell (lt_cell h3)).trans h3⟩⟩
theorem PkAt.take {w : World} {a : Option Addr} {n : Nat} {P : List Pk} (h : PkAt w a n P) {d : Nat} (hd : d ≤ n) : PkAt w a d (P.take d) := by
  refine ⟨by have := h.len; simp; omega, by have := h.lt; omega, fun j hj => ?_⟩
  rw [List.getElem?_take_of_lt hj]
  exact h.at (j := j) (by omega)

/-- a block of the call's own that begins with these numbers -/
def OwnS (w : World) (g n : Nat) (xs : List Int) : Prop := xs.length = n ∧ n < 1152921504606846976 ∧ ∃ rest : List Value, w.heap[g]? = some (.cells (xs.map (Value.int .i64) ++ rest).toArray 3 (0, 0))
theorem OwnS.gr {w w' : World} {g n : Nat} {xs : List Int} (h : OwnS w g n xs) (k : Gr w w') : OwnS w' g n xs := by
  obtain ⟨h1, h2, rest, h3⟩ := h
  refine ⟨h1, h2, rest, ?_⟩
  have hlt := (Array.getElem?_eq_some_iff.1 h3).1
  have := (k.only (fun _ => False)).block g hlt (fun h => h)
  rw [this]; exact h3
theorem addr_add0 (g j : Nat) : (⟨g, 0, none⟩ : Addr).add j = ⟨g, j, none⟩ := by
  unfold Addr.add; split
  · subst_vars; rfl
  · simp
theorem OwnS.ints {w : World} {g n : Nat} {xs : List Int} (h : OwnS w g n xs) : Ints w (some ⟨g, 0, none⟩) n xs := by
  obtain ⟨h1, h2, rest, h3⟩ := h
  refine ⟨h1, h2, fun j hj => ⟨_, rfl, (Array.getElem?_eq_some_iff.1 h3).1, ?_⟩⟩
  rw [addr_add0]
  refine cell_at h3 ?_
  have hj1 : j < xs.length := by omega
  simp [List.getElem?_append, hj1]
theorem OwnS.lt {w : World} {g n : Nat} {xs : List Int} (h : OwnS w g n xs) : g < w.heap.size := by
  obtain ⟨_, _, rest, h3⟩ := h
  exact (Array.getElem?_eq_some_iff.1 h3).1
theorem OwnS.free {w : World} {g n : Nat} {xs : List Int} (h : OwnS w g n xs) (j : Nat) : w.frozen? ⟨g, j, none⟩ = false := by
  obtain ⟨_, _, rest, h3⟩ := h
  unfold World.frozen?
  simp [h3]
theorem OwnS.cell {w : World} {g n : Nat} {xs : List Int} (h : OwnS w g n xs) {j : Nat} (hj : j < n) : w.cell? ⟨g, j, none⟩ = some (.int .i64 (xs[j]?.getD 0)) := by
  obtain ⟨ad, e, _, hc⟩ := h.ints.at hj
  cases e
  rw [addr_add0] at hc; exact hc
theorem OwnS.set {w : World} {g n : Nat} {xs : List Int} (h : OwnS w g n xs) {j : Nat} (hj : j < n) (x : Int) : OwnS (w.setCell ⟨g, j, none⟩ (.int .i64 x)) g n (xs.set j x) := by
  obtain ⟨h1, h2, rest, h3⟩ := h
  refine ⟨by simp [h1], h2, rest, ?_⟩
  have hj1 : j < xs.length := by omega
  rw [heap_setCell_same w g j _ 3 _ h3]
  congr 2
  simp [List.set_append, hj1, List.map_set]

/-- Install: the rounds. done: the packets before, r: the rest, cur: the state so far -/
def instL (f : Fl) (se : Int) (s : List Int) : List Pk → List Pk → List Int → Int × Int × List Int
  | _, [], cur => (0, 0, cur)
  | done, p :: r, cur => if acceptE f se p.c p.v p.data p.tg = 0 then (if done.any (fun q => q.c == p.c) then (done.length, 1, []) else if p.v ≤ s[p.c.toNat]?.getD 0 then (done.length, 112, []) else instL f se s (done ++ [p]) r (cur.set p.c.toNat p.v)) else (done.length, acceptE f se p.c p.v p.data p.tg, [])
/-- what Install returns: the state, the packet, the error -/
def instR (f : Fl) (se : Int) (s : List Int) (P : List Pk) : List Int × Int × Int :=
  if statesE f [s] = 0 then (if withinB P.length 1 f.times.length then (if (instL f se s [] P s).2.1 = 0 then (if worksB f s && worksB f (instL f se s [] P s).2.2 then ((instL f se s [] P s).2.2, 0, 0) else ([], 0, 111)) else ([], (instL f se s [] P s).1, (instL f se s [] P s).2.1)) else ([], 0, 1)) else ([], 0, statesE f [s])
/-- what a state's function returns -/
def InstPost (w : World) (r : List Int × Int × Int) (e : Ending) (w' : World) : Prop := ∃ a n c, e = .returned (.tuple #[.slice a n c, .int .i64 r.2.1, .int .i64 r.2.2]) ∧ Ints w' a n r.1 ∧ Gr w w'

theorem anyP_hit {l : List Pk} {p : Pk → Bool} {k : Nat} (hk : k < l.length) (h : p (l[k]?.getD default) = true) : l.any p = true := by
  rw [List.any_eq_true]; exact ⟨l[k], List.getElem_mem hk, by simpa [hk] using h⟩
theorem anyP_none {l : List Pk} {p : Pk → Bool} (h : ∀ j, j < l.length → p (l[j]?.getD default) = false) : l.any p = false := by
  rw [List.any_eq_false]; intro x hx
  obtain ⟨j, hj, rfl⟩ := List.getElem_of_mem hx
  have := h j hj
  simpa [hj] using this

set_option maxHeartbeats 1000000 in
theorem inst1_any (p : Pk) (B : Nat) (x : Int) (w : World) (hc : w.cell? ⟨B, 0, none⟩ = some (.int .i64 x)) :
    Calls Try.prog 74 #[.agg #[.int .i64 p.c, .int .i64 p.v, .string p.data, .int .i64 p.tg], .pointer (some ⟨B, 0, none⟩)] w fun e w' => e = .returned (.bool (p.c == x)) ∧ Gr w w' := by
  have hg := Gr.alloc w (.cells #[.int .i64 p.c, .int .i64 p.v, .string p.data, .int .i64 p.tg] 46)
  have hc1 := (hg.cell (lt_cell hc)).trans hc
  go_enter Try.func74, Try.ntmps74
  go_wp2
  go_ret
  exact ⟨rfl, hg⟩

set_option maxHeartbeats 1000000 in
theorem indexFunc74 (a : Option Addr) (n c B : Nat) (P : List Pk) (x : Int) (w : World) (hP : PkAt w a n P) (hc : w.cell? ⟨B, 0, none⟩ = some (.int .i64 x)) :
    Calls Try.prog 94 #[.slice a n c, .func (.func 74) #[] #[.pointer (some ⟨B, 0, none⟩)]] w (IdxPost (P.any fun q => q.c == x) w) := by
  have hn := hP.lt
  go_enter Try.func94, Try.ntmps94
  go_wp2
  go_loopw [8] (fun i wr => ∃ k : Nat, k ≤ n ∧ i = .int .i64 k ∧ Gr w wr ∧ Hid (∀ j, j < k → ((P[j]?.getD default).c == x) = false)) (fun i _ => n - (intOf i).toNat)
  case atStart => exact ⟨0, Nat.zero_le _, rfl, Gr.refl _, Lib.hid (by intros; omega)⟩
  case round =>
    obtain ⟨k, hk, rfl, hg, hall⟩ := hrel
    by_cases hlt : k < n
    · obtain ⟨aa, rfl, hab, hds, c0, c1, c2, c3⟩ := (hP.gr hg).at hlt
      have hcon := inst1_any (P[k]?.getD default) B x wr ((hg.cell (lt_cell hc)).trans hc)
      have HCON := Lib.hid hcon
      clear hcon
      cases hb : ((P[k]?.getD default).c == x) with
      | true =>
        rw [hb] at HCON
        go_wp2_with (go_at_call 74; refine HCON.out.mono ?_; rintro e w' ⟨rfl, hg2⟩)
        go_ret
        exact ⟨k, rfl, by rw [anyP_hit (p := fun q => q.c == x) (by rw [hP.len]; exact hlt) hb]; simp, hg.trans hg2⟩
      | false =>
        rw [hb] at HCON
        go_wp2_with (go_at_call 74; refine HCON.out.mono ?_; rintro e w' ⟨rfl, hg2⟩)
        go_roundw
        case rel => exact ⟨k + 1, by omega, by go_num, hg.trans hg2, Lib.hid (fun j hj => by
          by_cases e : j = k
          · subst e; exact hb
          · exact hall.out j (by omega))⟩
        case measure => simp [intOf]; omega
    · obtain rfl : k = n := by omega
      go_wp2
      go_ret
      exact ⟨-1, rfl, by rw [anyP_none (p := fun q => q.c == x) (fun j hj => hall.out j (by rw [← hP.len]; exact hj))]; simp, hg⟩

theorem run_take53 (w : World) (pa : Option Addr) (n c k : Nat) (hk : k ≤ c) : (Instr.slice 53 (.slice pa n c) none (some (.int .i64 k)) none).run Try.prog w = .ok (.slice pa k c) w := by
  have hu := Try.underlying53
  have ha : ∀ a : Addr, a.add 0 = a := fun a => by unfold Addr.add; rfl
  have hm : pa.map (fun a => a.add 0) = pa := by cases pa <;> simp [ha]
  have h1 : (0 : Int) ≤ k ∧ (k : Int) ≤ c := by omega
  obtain ⟨i0, hi, hz0, hz1, hz2⟩ := info_parts Try.info46
  simp [Instr.slice, Instr.sliceBounds, Instr.sliceBound, underlying, hu, sizeOf, hi, hz1, asIntOf, h1, hm, go_sem]
  intro h; omega

theorem containsFunc74 (a : Option Addr) (n c B : Nat) (P : List Pk) (x : Int) (w : World) (hP : PkAt w a n P) (hc : w.cell? ⟨B, 0, none⟩ = some (.int .i64 x)) :
    Calls Try.prog 73 #[.slice a n c, .func (.func 74) #[] #[.pointer (some ⟨B, 0, none⟩)]] w fun e w' => e = .returned (.bool (P.any fun q => q.c == x)) ∧ Gr w w' := by
  go_enter Try.func73, Try.ntmps73
  go_wp2_with (go_at_call 94; refine (indexFunc74 _ _ _ _ _ _ _ hP hc).mono ?_; rintro e w' ⟨r, rfl, hr, hg⟩)
  go_ret
  exact ⟨rfl, by assumption⟩
theorem own_of_row {w : World} {base : Nat} {v : Value} {n : Nat} {xs : List Int} (hl : xs.length = n) (hn : n < 1152921504606846976) (h : w.ownsRow base 3 1 v n (xs.map (Value.int .i64))) (h0 : 0 < n) :
    ∃ g c, v = .slice (some ⟨g, 0, none⟩) n c ∧ base ≤ g ∧ n ≤ c ∧ OwnS w g n xs := by
  rcases h.2 with ⟨_, h1⟩ | ⟨g, cap, cur, rfl, hb, hg, hnc, _, _, ht⟩
  · omega
  · refine ⟨g, cap, rfl, hb, hnc, hl, hn, cur.toList.drop (n * 1), ?_⟩
    rw [← ht, List.take_append_drop]; exact hg
def NewOwn (w : World) (n : Nat) (xs : List Int) (e : Ending) (w' : World) : Prop := ∃ g c, e = .returned (.slice (some ⟨g, 0, none⟩) n c) ∧ w.heap.size ≤ g ∧ n ≤ c ∧ OwnS w' g n xs ∧ Gr w w'
set_option maxHeartbeats 1000000 in
theorem cloneOwn_any (a : Option Addr) (n c : Nat) (xs : List Int) (w : World) (hx : Ints w a n xs) (h0 : 0 < n) (hn : n ≤ 1000000) : Calls Try.prog 51 #[.slice a n c] w (NewOwn w n xs) := by
  obtain ⟨ad, rfl, hab, _⟩ := hx.at h0
  obtain ⟨i0, hi, hz0, hz1, hz2⟩ := info_parts Try.info3
  have hnil := fun w a n c => Lib.run_eql_slice_nil (P := Try.prog) w 26 3 a n c 0 0 Try.underlying26
  have hg := Gr.alloc w (.cells #[] 3)
  have hxg := hx.gr hg
  have hown : (w.alloc (.cells #[] 3)).ownsRow w.heap.size 3 1 (.slice (some ⟨w.heap.size, 0, none⟩) 0 0) 0 [] := ⟨rfl, .inr ⟨w.heap.size, 0, #[], rfl, Nat.le_refl _, heap_alloc_new w _, Nat.le_refl _, by unfold maxLen; omega, rfl, rfl⟩⟩
  have HOWN := Lib.hid hown
  clear hown
  go_enter Try.func51, Try.ntmps51
  go_wp2_with (at_builtin; refine wpList_append_own _ rfl _ _ 26 rfl w.heap.size 3 i0 (.int .i64 0) 1 8 Try.underlying26 hi hz0 hz1 hz2 rfl (by decide) _ _ _ rfl HOWN.out ad n c (xs.map (Value.int .i64)) rfl (by rw [List.length_map, hx.len, Nat.mul_one]) hxg.cells (ints_one xs) (by unfold maxLen; omega) (by omega) (by simp) ?_; intro v' w1 hown' hgrow _)
  have hown2 : w1.ownsRow w.heap.size 3 1 v' n (xs.map (Value.int .i64)) := by simpa using hown'
  obtain ⟨g, c', rfl, hge, hnc, how⟩ := own_of_row hx.len (by omega) hown2 h0
  go_wp2
  go_ret
  have hgr : Gr w w1 := Below.grown hg hgrow (Gr.size hg) (fun k hk => by cases hk; exact Nat.le_refl _)
  exact ⟨g, c', rfl, hge, hnc, how, hgr⟩
/-- 'append([]int(nil), xs...)' of some numbers: a block of the call's own -/
theorem wpList_copyOwn {ops : Array Oper} {rest : List Oper} {o : Oper} {a : Act} {W : World} {Q : Exit → Act → World → Prop} (hgd : o.guard = none) {s x : Operand} {sa : Option Addr} {n c : Nat} {y : List Int}
    (ho : o.op = .call { callee := .builtin .append, args := #[s, x], argTypes := #[26, 26] }) (hs : a.eval s = .slice none 0 0) (hx : a.eval x = .slice sa n c) (hy : Ints W sa n y) (h0 : 0 < n) (hn : n ≤ 1000000)
    (h : ∀ g c' w', OwnS w' g n y → n ≤ c' → W.heap.size ≤ g → Gr W w' → wpList Try.prog ops Q rest (a.put o.dst (.slice (some ⟨g, 0, none⟩) n c')) w') : wpList Try.prog ops Q (o :: rest) a W := by
  refine wpList_plain hgd fun K hK => ?_
  obtain ⟨ad, rfl, hab, _⟩ := hy.at h0
  obtain ⟨i0, hi, hz0, hz1, hz2⟩ := info_parts Try.info3
  refine wp_append_own W s x 26 ho W.heap.size 3 i0 (.int .i64 0) 1 8 Try.underlying26 hi hz0 hz1 hz2 rfl (by decide) _ 0 [] hs (World.ownsRow_nil W _ 3 1) ad n c (y.map (Value.int .i64)) hx (by rw [List.length_map, hy.len, Nat.mul_one]) hy.cells (ints_one y) (by unfold maxLen; omega) (by omega) (Nat.le_refl _) (fun v' w' hown' hgrow _ => ?_)
  have hown2 : w'.ownsRow W.heap.size 3 1 v' n (y.map (Value.int .i64)) := by simpa using hown'
  obtain ⟨g, c', rfl, hge, hnc, how⟩ := own_of_row hy.len (by omega) hown2 h0
  exact hK _ _ (h g c' w' how hnc hge ((only_grown hgrow).gr (fun i hi e => by simp [Value.ownBlock] at e)))
end
section
open Go.ChangeShapes Go.WideShapes Go.RowKit Go.Deep Go.Joins
section
variable {H : Type} {enc : TypeId × Value → H} {w : World} {base : Nat} {spare : Nat → Bool} {held : Bool}

theorem Try.cells9 : Try.prog.cellsOf 9 = 1 := by kernel_rfl
theorem Try.cells46 : Try.prog.cellsOf 46 = 4 := by kernel_rfl
theorem Try.bytes46 : Try.prog.bytesOf 46 = 40 := by kernel_rfl

/-- a slice of packets -/
theorem open_pks {fuel : Nat} {v : Value} {x : DataW H × List MemPlace} (h : DataW.trod enc Try.prog w base spare held fuel 53 [v] = some x) (hw : Wt 53 x.1) : ∃ a n c P, v = .slice a n c ∧ PkAt w a n P ∧ n ≤ c := by
  rcases open_slice Try.underlying53 h with ⟨hcs, _⟩ | ⟨a, len, cap, m, n, D, Pl, hcs, hb, hl, hm, hmm, hx, hi⟩
  · simp at hcs
    exact ⟨none, 0, 0, [], hcs, ⟨rfl, by omega, fun j hj => by omega⟩, Nat.le_refl _⟩
  · simp at hcs
    subst hcs
    have hlm : len ≤ m := by rw [hmm]; split <;> omega
    have hw1 := hw
    rw [hx] at hw1
    have hlen := hw1.len Try.underlying53
    rw [Try.bytes46] at hlen
    simp only [List.length_map, List.length_range, reachBytes] at hlen
    obtain ⟨P, hP1, hP2⟩ := list_of (P := fun j (c : Pk) => c.data.size < 1152921504606846976 ∧ w.cell? (a.add (j * 4)) = some (.int .i64 c.c) ∧ w.cell? ((a.add (j * 4)).add 1) = some (.int .i64 c.v) ∧ w.cell? ((a.add (j * 4)).add 2) = some (.string c.data) ∧ w.cell? ((a.add (j * 4)).add 3) = some (.int .i64 c.tg)) default len (fun j hj => by
      obtain ⟨cs', hc, ht'⟩ := hi j (by omega)
      rw [Try.cells46] at hc
      obtain ⟨_, hcl, hat⟩ := World.cells?_some hc
      obtain ⟨ys, n', hn', hy, hlen', hyl, hf⟩ := DataW.trod_struct Try.underlying46 ht'
      have hwj : Wt 46 (D j) := hw1.elem Try.underlying53 (List.mem_map.2 ⟨j, List.mem_range.2 hj, rfl⟩)
      have hyl4 : ys.length = 4 := by simpa using hyl
      obtain ⟨c0, c1, c2, c3, rfl⟩ := four hcl
      obtain ⟨y0, y1, y2, y3, rfl⟩ := four hyl4
      · have f0 := hf 0 _ rfl
        have f1 := hf 1 _ rfl
        have f2 := hf 2 _ rfl
        have f3 := hf 3 _ rfl
        simp [Try.cells3, Try.cells9] at f0 f1 f2 f3
        obtain ⟨i0, e0, _⟩ := DataW.trod_int Try.underlying3 f0
        obtain ⟨i1, e1, _⟩ := DataW.trod_int Try.underlying3 f1
        obtain ⟨s2, e2, hx2, _⟩ := DataW.trod_string Try.underlying9 f2
        obtain ⟨i3, e3, _⟩ := DataW.trod_int Try.underlying3 f3
        simp at e0 e1 e2 e3
        subst e0 e1 e2 e3
        have hd : D j = .agg [y0.1, y1.1, y2.1, y3.1] := by
          have := hy
          simp only [Prod.mk.injEq] at this
          simpa using this.1
        rw [hd] at hwj
        have hw2 : Wt 9 y2.1 := hwj.field Try.underlying46 (j := 2) (ft := 9) (by simp) (by simp)
        rw [hx2] at hw2
        have hsz := hw2 s2.data.toList.length (by simp [DataW.weights])
        simp [reachBytes] at hsz
        exact ⟨⟨i0, i1, s2, i3⟩, by show s2.size < _; omega, hat 0 (by omega), hat 1 (by omega), hat 2 (by omega), hat 3 (by omega)⟩)
    refine ⟨some a, len, cap, P, rfl, ⟨hP1, by omega, fun j hj => ?_⟩, hl⟩
    obtain ⟨hs, h0, h1, h2, h3⟩ := hP2 j hj
    exact ⟨a, rfl, by have := cell_blk h0; rwa [add_block] at this, hs, h0, h1, h2, h3⟩

set_option maxRecDepth 100000 in
/-- a batch -/
theorem open_bt {r : Reach} {b0 : Nat} {v : Value} {d : DataW H} {p : List MemPlace} (hv : Value.okWide Try.prog w r b0 55 v) (h : DataW.Trod enc Try.prog w base spare held 55 v d p) (hw : Wt 55 d) :
    ∃ a n c pa ln lc xs P, v = .agg #[.slice a n c, .slice pa ln lc] ∧ Ints w a n xs ∧ PkAt w pa ln P ∧ ln ≤ lc := by
  obtain ⟨v0, v1, y0, y1, n, rfl, rfl, _, h0, h1⟩ := open_agg2 Try.underlying55 (by kernel_rfl) (by kernel_rfl) hv h
  obtain ⟨a, n, c, xs, rfl, hx⟩ := open_st h0 (hw.field Try.underlying55 (j := 0) (ft := 26) (by simp) (by simp))
  obtain ⟨pa, ln, lc, P, rfl, hP, hc⟩ := open_pks h1 (hw.field Try.underlying55 (j := 1) (ft := 53) (by simp) (by simp))
  exact ⟨a, n, c, pa, ln, lc, xs, P, rfl, hx, hP, hc⟩
end
end
section
set_option linter.unusedVariables false
open Go.RowKit

theorem region_inv2 {F : Fence} {n : Nat} {P : Program} {id : Nat} {l : List Oper} {Q : Exit → Act → World → Prop} {a : Act} {w : World} (hm : P.follows .mixedOrders = true)
    (hdag : (l.zipIdx.all fun (o, i) => (fore o).all (· < i)) = true) (hnd : (dstsOf l).Nodup) (hwide : ∀ f, F.fn f)
    (R : (Nat → Bool) → (Nat → Value) → World → Prop) (h0 : ∀ u, fillL u l 0 a.tmps = a.tmps → R (fun _ => false) u w.drew)
    (hstep : AllIdx (fun i o => ∀ (u : Nat → Value) (done : Nat → Bool) (W : World), done i = false → (∀ j ∈ anc l l.length (fore o), done j = true) → (∀ j oj, l[j]? = some oj → done j = true → ∀ k ∈ anc l l.length (fore oj), done k = true) → R done u W →
      if Region.wanted o (yielded l.toArray (fillL u l 0 a.tmps)) then o.wpIn F n P { a with tmps := fillL u l 0 a.tmps } W (fun a' W' => ∃ v, a' = ({ a with tmps := fillL u l 0 a.tmps } : Act).put o.dst v ∧ R (upd done i) (fun j => if j = i then v else u j) W') Q
      else R (upd done i) (fun j => if j = i then undef else u j) W) l 0)
    (hfin : ∀ (u : Nat → Value) (W : World), (∃ done, (∀ i, i < l.length → done i = true) ∧ R done u W) → Q .normal { a with tmps := fillL u l 0 a.tmps } W) :
    (Code.region id l.toArray true).wpIn F n P Q a w := by
  refine wpIn_region_any hm ?_
  have hfore : ∀ i o, l[i]? = some o → ∀ k ∈ fore o, k < i := by
    intro i o hi k hk
    rw [List.all_eq_true] at hdag
    have hmem : (o, i) ∈ l.zipIdx := by
      rw [List.mem_zipIdx_iff_getElem?]; exact hi
    have := hdag (o, i) hmem
    simp only [List.all_eq_true, decide_eq_true_eq] at this
    exact this k hk
  have hready : ∀ (listed : Array Bool) (done : Nat → Bool), listed.size = l.length → (∀ i, i < l.length → listed.getD i true = done i) → ∀ i o, l[i]? = some o →
      (i ∈ Region.ready .any l.toArray listed ↔ done i = false ∧ ∀ k ∈ fore o, done k = true) := by
    intro listed done hsz hl i o hi
    have hlt : i < l.length := (List.getElem?_eq_some_iff.1 hi).1
    have hget : ∀ k, k < l.length → listed.getD k false = done k := by
      intro k hk
      rw [← hl k hk]
      simp [Array.getD_eq_getD_getElem?, hsz, hk]
    simp only [Region.ready, List.mem_filter, List.mem_range, List.size_toArray, hlt, true_and, Bool.and_eq_true, Bool.not_eq_true', hl i hlt, List.getElem?_toArray, hi, Option.map_some, Option.getD_some]
    refine and_congr_right fun _ => ?_
    rw [Array.all_eq_true']
    constructor
    · intro h k hk
      have hki := hfore i o hi k hk
      simp only [fore, List.mem_map, List.mem_filter] at hk
      obtain ⟨e, ⟨he, hb⟩, rfl⟩ := hk
      have := h e (by simpa using he)
      simp only [hb, Bool.not_true, Bool.false_or] at this
      rw [← hget e.on (by omega)]
      exact this
    · intro h e he
      cases hb : Region.binds .any e with
      | false => simp
      | true =>
        have hk : e.on ∈ fore o := by simp only [fore, List.mem_map, List.mem_filter]; exact ⟨e, ⟨by simpa using he, hb⟩, rfl⟩
        have hd := h e.on hk
        have hek := hfore i o hi e.on hk
        rw [← hget e.on (by omega)] at hd
        simp only [Bool.not_true, Bool.false_or]
        exact hd
  have hmem : ∀ (listed : Array Bool) i, i ∈ Region.ready .any l.toArray listed → i < l.length := by
    intro listed i hi
    simp only [Region.ready, List.mem_filter, List.mem_range, List.size_toArray] at hi
    exact hi.1
  have hall : ∀ (listed : Array Bool) (done : Nat → Bool), listed.size = l.length → (∀ i, i < l.length → listed.getD i true = done i) → Region.ready .any l.toArray listed = [] → ∀ i, i < l.length → done i = true := by
    intro listed done hsz hl hr i
    induction i using Nat.strongRecOn with
    | _ i ih =>
      intro hi
      cases hd : done i with
      | true => rfl
      | false =>
        have ho : l[i]? = some l[i] := List.getElem?_eq_getElem hi
        have := (hready listed done hsz hl i _ ho).2 ⟨hd, fun k hk => by
          have hki := hfore i _ ho k hk
          exact ih k hki (by omega)⟩
        rw [hr] at this
        simp at this
  have main : ∀ (fuel : Nat) (listed : Array Bool) (u : Nat → Value) (done : Nat → Bool) (W : World), listed.size = l.length → (∀ i, i < l.length → listed.getD i true = done i) →
      (List.range l.length).countP (fun j => !done j) ≤ fuel → (∀ j o, l[j]? = some o → done j = true → ∀ k ∈ fore o, done k = true) → R done u W →
      wpAnyIn F n P .any l.toArray Q fuel listed { a with tmps := fillL u l 0 a.tmps } W := by
    intro fuel
    induction fuel with
    | zero =>
      intro listed u done W hsz hl hc hcl hR
      have hd : ∀ i, i < l.length → done i = true := by
        intro i hi
        have h0 : (List.range l.length).countP (fun j => !done j) = 0 := by omega
        rw [List.countP_eq_zero] at h0
        have := h0 i (List.mem_range.2 hi)
        simpa using this
      refine ⟨?_, hfin u W ⟨done, hd, hR⟩⟩
      rw [List.eq_nil_iff_forall_not_mem]
      intro i hi
      have hlt := hmem listed i hi
      have ho : l[i]? = some l[i] := List.getElem?_eq_getElem hlt
      have := ((hready listed done hsz hl i _ ho).1 hi).1
      rw [hd i hlt] at this
      cases this
    | succ fuel ih =>
      intro listed u done W hsz hl hc hcl hR
      refine ⟨fun hr => ?_, fun i hi => ?_⟩
      · have hd := hall listed done hsz hl hr
        exact hfin u W ⟨done, hd, hR⟩
      · have hlt := hmem listed i hi
        have ho : l[i]? = some l[i] := List.getElem?_eq_getElem hlt
        generalize hoo : l[i] = o at ho
        obtain ⟨hdi, hfo⟩ := (hready listed done hsz hl i o ho).1 hi
        have hanc : ∀ j ∈ anc l l.length (fore o), done j = true := anc_closed hcl _ _ hfo
        have hs := AllIdx.at hstep i o ho
        simp only [Nat.zero_add] at hs
        have hs := hs u done W hdi hanc (fun j oj hj hdj => anc_closed hcl _ _ (hcl j oj hj hdj)) hR
        have hnext : ∀ (v : Value) (W' : World), R (upd done i) (fun j => if j = i then v else u j) W' → wpAnyIn F n P .any l.toArray Q fuel (listed.setIfInBounds i true) (({ a with tmps := fillL u l 0 a.tmps } : Act).put o.dst v) W' := by
          intro v W' hR'
          have hput : (({ a with tmps := fillL u l 0 a.tmps } : Act).put o.dst v) = { a with tmps := fillL (fun j => if j = i then v else u j) l 0 a.tmps } := by
            cases hd : o.dst with
            | none =>
              simp only [Act.put]
              rw [fillL_none u v l 0 i a.tmps o ho hd, Nat.zero_add]
            | some d =>
              simp only [Act.put]
              rw [fillL_put u v l 0 i a.tmps o d hnd ho hd, Nat.zero_add]
          rw [hput]
          refine ih (listed.setIfInBounds i true) _ (upd done i) W' (by simp [hsz]) (fun j hj => ?_) ?_ ?_ hR'
          · unfold upd
            by_cases e : j = i
            · subst e; simp [Array.getD_eq_getD_getElem?, hsz, hj]
            · rw [if_neg e, ← hl j hj]
              simp [Array.getD_eq_getD_getElem?, Array.getElem?_setIfInBounds_ne (Ne.symm e)]
          · have := countP_upd l.length done i hlt hdi
            omega
          · intro j oj hj hdj k hk
            unfold upd at hdj ⊢
            by_cases e : j = i
            · subst e
              rw [ho] at hj
              cases hj
              have := hfo k hk
              simp [this]
            · rw [if_neg e] at hdj
              have := hcl j oj hj hdj k hk
              simp [this]
        unfold wpOpIn
        simp only [List.getElem?_toArray, ho]
        by_cases hw : Region.wanted o (yielded l.toArray (fillL u l 0 a.tmps)) = true
        · rw [if_pos hw] at hs ⊢
          exact Oper.wpIn_mono (fun a' W' ⟨v, ha, hR'⟩ => by subst ha; exact hnext v W' hR') hs
        · rw [if_neg hw] at hs ⊢
          exact ⟨fun f _ => hwide f, hnext undef W hs⟩
  obtain ⟨u0, hself⟩ : ∃ u0 : Nat → Value, fillL u0 l 0 a.tmps = a.tmps :=
    ⟨fun i => match l[i]? with | some o => (match o.dst with | some d => a.tmps.getD d undef | none => undef) | none => undef, by
      apply fillL_self
      intro i o d hi hd _
      simp only [Nat.zero_add, hi, hd]⟩
  have hmain := main l.length (Array.replicate l.length false) u0 (fun _ => false) w.drew (by simp) (fun i hi => by simp [hi]) (by simp) (fun _ _ _ h => by cases h) (h0 _ hself)
  rw [hself] at hmain
  rw [List.size_toArray]
  exact hmain

/-- what a slot held before -/
theorem fillL_was {l : List Oper} {u : Nat → Value} {t : Array Value} (h : fillL u l 0 t = t) (hnd : (dstsOf l).Nodup) (j : Nat) {o : Oper} {d : Nat} {v : Value} (ho : l[j]? = some o) (hd : o.dst = some d) (hv : t[d]? = some v) : u j = v := by
  have hlt : d < t.size := (Array.getElem?_eq_some_iff.1 hv).1
  have := fillL_get u l 0 j t o d hnd ho hd hlt
  rw [h, hv, Nat.zero_add] at this
  injection this with this
  exact this.symm
end
section
set_option linter.unusedVariables false
open Go.RowKit

/-- what is known of a frame: its size, and some slots -/
structure Fr (a : Act) (n : Nat) (L : List (Nat × Value)) (D : List Deferred := []) : Prop where
  sz : a.tmps.size = n
  df : a.defers = D
  get : ∀ s v, (s, v) ∈ L → a.tmps[s]? = some v

def lookS (L : List (Nat × Value)) (s : Nat) : Option Value :=
  match L with
  | [] => none
  | (t, v) :: r => if t = s then some v else lookS r s
theorem lookS_mem {L : List (Nat × Value)} {s : Nat} {v : Value} (h : lookS L s = some v) : (s, v) ∈ L := by
  induction L with
  | nil => simp [lookS] at h
  | cons p r ih =>
    obtain ⟨t, x⟩ := p
    simp only [lookS] at h
    split at h
    · subst_vars; simp at h; subst h; simp
    · exact List.mem_cons_of_mem _ (ih h)
theorem Fr.look {a : Act} {n : Nat} {L : List (Nat × Value)} {D : List Deferred} (h : Fr a n L D) {s : Nat} {v : Value} (hl : lookS L s = some v) : a.tmps[s]? = some v := h.get s v (lookS_mem hl)
theorem eval_of {a : Act} {s : Nat} {v : Value} (h : a.tmps[s]? = some v) : a.eval (.tmp s) = v := by
  show a.tmps.getD s undef = v
  simp [h]
theorem Fr.ev {a : Act} {n : Nat} {L : List (Nat × Value)} {D : List Deferred} (h : Fr a n L D) (s : Nat) (v : Value) (hl : lookS L s = some v) : a.eval (.tmp s) = v := eval_of (h.look hl)

/-- which operation writes a slot -/
def writer (s : Nat) : List Oper → Nat → Option Nat
  | [], _ => none
  | o :: r, k => if o.dst = some s then some k else writer s r (k + 1)
theorem writer_some {s : Nat} : ∀ {l : List Oper} {k j : Nat}, writer s l k = some j → k ≤ j ∧ ∃ o, l[j - k]? = some o ∧ o.dst = some s := by
  intro l
  induction l with
  | nil => intro k j h; simp [writer] at h
  | cons o r ih =>
    intro k j h
    simp only [writer] at h
    split at h
    · simp at h; subst h; exact ⟨Nat.le_refl _, o, by simp, by assumption⟩
    · obtain ⟨h1, o', h2, h3⟩ := ih h
      refine ⟨by omega, o', ?_, h3⟩
      rw [show j - k = (j - (k + 1)) + 1 by omega]; simpa using h2
theorem writer_none {s : Nat} : ∀ {l : List Oper} {k : Nat}, writer s l k = none → s ∉ dstsOf l := by
  intro l
  induction l with
  | nil => intro k _; simp [dstsOf]
  | cons o r ih =>
    intro k h
    simp only [writer] at h
    split at h
    · cases h
    · rename_i hne
      have := ih h
      cases ho : o.dst with
      | none => simpa [dstsOf, List.filterMap_cons, ho] using this
      | some d =>
        have hd : d ≠ s := fun e => hne (by rw [ho, e])
        simp only [dstsOf, List.filterMap_cons, ho, List.mem_cons, not_or]
        exact ⟨Ne.symm hd, this⟩
theorem fillL_other (u : Nat → Value) : ∀ (l : List Oper) (k : Nat) (t : Array Value) (s : Nat), s ∉ dstsOf l → (fillL u l k t)[s]? = t[s]? := by
  intro l
  induction l with
  | nil => intro k t s _; rfl
  | cons o r ih =>
    intro k t s hs
    simp only [fillL]
    cases ho : o.dst with
    | none =>
      have hs' : s ∉ dstsOf r := by simpa [dstsOf, List.filterMap_cons, ho] using hs
      exact ih (k + 1) t s hs'
    | some d =>
      have hs' : s ≠ d ∧ s ∉ dstsOf r := by simpa [dstsOf, List.filterMap_cons, ho] using hs
      rw [ih (k + 1) _ s hs'.2, Array.getElem?_setIfInBounds_ne (Ne.symm hs'.1)]

def ancAt (l : List Oper) (i : Nat) : List Nat := match l[i]? with | some o => anc l l.length (fore o) | none => []
/-- what a slot holds when operation i comes up -/
def slotAt (l : List Oper) (vs : List (Option Value)) (L : List (Nat × Value)) (i s : Nat) : Option Value :=
  match writer s l 0 with
  | some j => if (ancAt l i).contains j then (vs[j]?).join else if j = i ∨ (ancAt l j).contains i then lookS L s else none
  | none => lookS L s
/-- what a slot holds behind the region -/
def lastAt (l : List Oper) (vs : List (Option Value)) (L : List (Nat × Value)) (s : Nat) : Option Value :=
  match writer s l 0 with
  | some j => (vs[j]?).join
  | none => lookS L s

/-- the values of the operations: those that have run, and what the slots of the others hold -/
def Kv (l : List Oper) (vs : List (Option Value)) (t : Array Value) (done : Nat → Bool) (u : Nat → Value) : Prop :=
  ∀ j, (done j = true → ∀ x, vs[j]? = some (some x) → u j = x) ∧ (done j = false → ∀ o d v, l[j]? = some o → o.dst = some d → t[d]? = some v → u j = v)

/-- the state in which operation i comes up -/
structure Ste (l : List Oper) (vs : List (Option Value)) (L : List (Nat × Value)) (i : Nat) (A : Act) (done : Nat → Bool) (u : Nat → Value) : Prop where
  ev : ∀ s v, slotAt l vs L i s = some v → A.eval (.tmp s) = v
  nd : done i = false
  an : ∀ j, (ancAt l i).contains j = true → done j = true
  no : ∀ j, (ancAt l j).contains i = true → done j = false
  own : ∀ j d, ((l[j]?).bind fun o : Oper => o.dst) = some d → A.eval (.tmp d) = u j
  yl : ∀ j d b, (ancAt l i).contains j = true → ((l[j]?).bind fun o : Oper => o.dst) = some d → vs[j]? = some (some (.bool b)) → yielded l.toArray A.tmps j = some b

def StepX (P : Program) (l : List Oper) (vs : List (Option Value)) (L : List (Nat × Value)) (Q : Exit → Act → World → Prop) (R : (Nat → Bool) → (Nat → Value) → World → Prop) (i : Nat) (o : Oper) : Prop :=
  ∀ (A : Act) (done : Nat → Bool) (u : Nat → Value) (W : World), Ste l vs L i A done u → R done u W →
    if Region.wanted o (yielded l.toArray A.tmps) then ∀ K : Act → World → Prop, (∀ v W', (∀ x, vs[i]? = some (some x) → v = x) → R (upd done i) (fun j => if j = i then v else u j) W' → K (A.put o.dst v) W') → o.wp P A W K Q
    else (vs[i]? = some none ∧ R (upd done i) (fun j => if j = i then undef else u j) W)

/-- closed facts about a region -/
structure RegOk (l : List Oper) (vs : List (Option Value)) (n : Nat) : Prop where
  dag : (l.zipIdx.all fun (o, i) => (fore o).all (· < i)) = true
  nod : (dstsOf l).Nodup
  siz : ((dstsOf l).all (· < n)) = true
  len : vs.length = l.length
  ndf : (l.all fun o => match o.op with | .defer _ => false | _ => true) = true

theorem Kv.put {l : List Oper} {vs : List (Option Value)} {t : Array Value} {done : Nat → Bool} {u : Nat → Value} (h : Kv l vs t done u) {i : Nat} {v : Value} (hv : ∀ x, vs[i]? = some (some x) → v = x) : Kv l vs t (upd done i) (fun j => if j = i then v else u j) := by
  intro j
  by_cases e : j = i
  · subst e
    simp only [upd_self, if_true]
    exact ⟨fun _ x hx => hv x hx, fun h => by cases h⟩
  · simp only [upd_ne e, if_neg e]; exact h j

theorem ste_of {l : List Oper} {vs : List (Option Value)} {n : Nat} {L : List (Nat × Value)} {D : List Deferred} {a : Act} (F : Fr a n L D) (ok : RegOk l vs n) {i : Nat} {o : Oper} (ho : l[i]? = some o) {done : Nat → Bool} {u : Nat → Value} (hd : done i = false)
    (hanc : ∀ j ∈ anc l l.length (fore o), done j = true) (hclo : ∀ j oj, l[j]? = some oj → done j = true → ∀ k ∈ anc l l.length (fore oj), done k = true) (hk : Kv l vs a.tmps done u) :
    Ste l vs L i { a with tmps := fillL u l 0 a.tmps } done u := by
  have han : ∀ j, (ancAt l i).contains j = true → done j = true := fun j hj => by
    simp only [ancAt, ho] at hj
    exact hanc j (by simpa using hj)
  have hno : ∀ j, (ancAt l j).contains i = true → done j = false := fun j hj => by
    cases hoj : l[j]? with
    | none => simp [ancAt, hoj] at hj
    | some oj =>
      simp only [ancAt, hoj] at hj
      cases hdj : done j with
      | false => rfl
      | true => rw [hclo j oj hoj hdj i (by simpa using hj)] at hd; cases hd
  have hsz : ∀ (j : Nat) (o : Oper) (d : Nat), l[j]? = some o → o.dst = some d → d < a.tmps.size := fun j o d h1 h2 => by
    have := ok.siz
    rw [List.all_eq_true] at this
    rw [F.sz]
    have hm : d ∈ dstsOf l := by
      unfold dstsOf
      rw [List.mem_filterMap]
      exact ⟨o, List.mem_of_getElem? h1, h2⟩
    simpa using this d hm
  have hown : ∀ (j : Nat) (o : Oper) (d : Nat), l[j]? = some o → o.dst = some d → (fillL u l 0 a.tmps)[d]? = some (u j) := fun j o d h1 h2 => by
    have := fillL_get u l 0 j a.tmps o d ok.nod h1 h2 (hsz j o d h1 h2)
    rw [Nat.zero_add] at this; exact this
  refine ⟨fun s v hs => ?_, hd, han, hno, fun j d hj => ?_, fun j d b hj hdj0 hb => ?_⟩
  · refine eval_of ?_
    show (fillL u l 0 a.tmps)[s]? = some v
    unfold slotAt at hs
    cases hw : writer s l 0 with
    | none =>
      rw [hw] at hs
      rw [fillL_other u l 0 a.tmps s (writer_none hw)]
      exact F.look hs
    | some j =>
      rw [hw] at hs
      obtain ⟨_, oj, hoj, hdj⟩ := writer_some hw
      rw [Nat.sub_zero] at hoj
      rw [hown j oj s hoj hdj]
      simp only at hs
      split at hs
      · rename_i hc
        have hvj : vs[j]? = some (some v) := by
          cases hx : vs[j]? with
          | none => rw [hx] at hs; simp at hs
          | some x => rw [hx] at hs; simp at hs; rw [hs]
        rw [(hk j).1 (han j hc) v hvj]
      · split at hs
        · rename_i hc
          have hdn : done j = false := by
            rcases hc with rfl | hc
            · exact hd
            · exact hno j hc
          rw [(hk j).2 hdn oj s v hoj hdj (F.look hs)]
        · cases hs
  · cases hoj : l[j]? with
    | none => rw [hoj] at hj; simp at hj
    | some oj =>
      rw [hoj] at hj
      exact eval_of (hown j oj d hoj (by simpa using hj))
  · cases hoj : l[j]? with
    | none => rw [hoj] at hdj0; simp at hdj0
    | some oj =>
      rw [hoj] at hdj0
      have hdj : oj.dst = some d := by simpa using hdj0
      have huj := (hk j).1 (han j hj) _ hb
      simp [yielded, hoj, hdj, hown j oj d hoj hdj, huj]

/-- the operations one after the other -/
def wpL (P : Program) (ops : Array Oper) (Q : Exit → Act → World → Prop) : List Oper → Act → World → Prop
  | [], a, w => Q .normal a w
  | o :: rest, a, w => if Region.wanted o (yielded ops a.tmps) then o.wp P a w (wpL P ops Q rest) Q else wpL P ops Q rest (a.put o.dst undef) w
theorem wpL_step {P : Program} {ops : Array Oper} {Q : Exit → Act → World → Prop} {o : Oper} {rest : List Oper} {a : Act} {w : World}
    (h : ∀ K : Act → World → Prop, (∀ a w, wpL P ops Q rest a w → K a w) → if Region.wanted o (yielded ops a.tmps) then o.wp P a w K Q else K (a.put o.dst undef) w) : wpL P ops Q (o :: rest) a w := by
  have := h _ (fun _ _ h => h)
  unfold wpL
  exact this
theorem wpL_list {P : Program} {ops : Array Oper} {Q : Exit → Act → World → Prop} : ∀ (l : List Oper) (a : Act) (w : World), wpL P ops Q l a w → wpList P ops Q l a w := by
  intro l
  induction l with
  | nil => intro a w h; exact h
  | cons o r ih =>
    intro a w h
    refine wpList_step fun K hK => ?_
    unfold wpL at h
    split
    · rename_i hw; rw [if_pos hw] at h; exact Oper.wp_mono (fun a w h => hK a w (ih a w h)) h
    · rename_i hw; rw [if_neg hw] at h; exact hK _ _ (ih _ _ h)
theorem wpL_in {P : Program} {ops : Array Oper} {Q : Exit → Act → World → Prop} {ro : Option Nat} : ∀ (l : List Oper) (a : Act) (w : World), (l.all fun o => match o.op with | .defer _ => false | _ => true) = true → wpL P ops Q l a w → wpListIn { Fence.wide with round := ro } 0 P ops Q l a w := by
  intro l
  induction l with
  | nil => intro a w _ h; exact h
  | cons o r ih =>
    intro a w hd h
    simp only [List.all_cons, Bool.and_eq_true] at hd
    unfold wpL at h
    unfold wpListIn
    split
    · rename_i hw
      rw [if_pos hw] at h
      exact wpIn_of_wp (fun c hc => by have := hd.1; rw [hc] at this; cases this) (Oper.wp_mono (fun a w h => ih a w hd.2 h) h)
    · rename_i hw; rw [if_neg hw] at h; exact ⟨fun _ _ => trivial, ih _ _ hd.2 h⟩
theorem wpIn_region_L {P : Program} {id : Nat} {l : List Oper} {Q : Exit → Act → World → Prop} {a : Act} {w : World} {ro : Option Nat} (hd : (l.all fun o => match o.op with | .defer _ => false | _ => true) = true)
    (h : wpL P l.toArray Q l a w) : (Code.region id l.toArray false).wpIn { Fence.wide with round := ro } 0 P Q a w := wpIn_region_lit (wpL_in l a w hd h)

/-- **A REGION, DRAWN OR NOT**: each operation is walked once. vs: the values that are known; R: what holds of the world besides. -/
theorem region_xi {ro : Option Nat} {P : Program} {id : Nat} {l : List Oper} {d : Bool} {Q : Exit → Act → World → Prop} {a : Act} {w : World} {n : Nat} {L : List (Nat × Value)} {D : List Deferred} (F : Fr a n L D) (vs : List (Option Value)) (R : (Nat → Bool) → (Nat → Value) → World → Prop)
    (hm : P.follows .mixedOrders = true) (ok : RegOk l vs n) (h0 : ∀ u, R (fun _ => false) u w ∧ R (fun _ => false) u w.drew)
    (hstep : AllIdx (StepX P l vs L Q R) l 0)
    (hfin : ∀ (A : Act) (u : Nat → Value) (W : World), A.tmps.size = n → A.defers = D → (∀ s v, lastAt l vs L s = some v → A.tmps[s]? = some v) → (∀ j d, ((l[j]?).bind fun o : Oper => o.dst) = some d → A.tmps[d]? = some (u j)) → R (fun j => decide (j < l.length)) u W → Q .normal A W) :
    (Code.region id l.toArray d).wpIn { Fence.wide with round := ro } 0 P Q a w := by
  have hfin' : ∀ (done : Nat → Bool) (u : Nat → Value) (W : World), (∀ i, done i = decide (i < l.length)) → Kv l vs a.tmps done u → R done u W → Q .normal { a with tmps := fillL u l 0 a.tmps } W := by
    intro done u W hd hk hR
    have hde : done = fun j => decide (j < l.length) := funext hd
    subst hde
    have hsz : ∀ (j : Nat) (o : Oper) (d : Nat), l[j]? = some o → o.dst = some d → d < a.tmps.size := fun j o d h1 h2 => by
      have := ok.siz
      rw [List.all_eq_true] at this
      rw [F.sz]
      have hmm : d ∈ dstsOf l := by
        unfold dstsOf
        rw [List.mem_filterMap]
        exact ⟨o, List.mem_of_getElem? h1, h2⟩
      simpa using this d hmm
    have hown : ∀ (j : Nat) (o : Oper) (d : Nat), l[j]? = some o → o.dst = some d → (fillL u l 0 a.tmps)[d]? = some (u j) := fun j o d h1 h2 => by
      have := fillL_get u l 0 j a.tmps o d ok.nod h1 h2 (hsz j o d h1 h2)
      rw [Nat.zero_add] at this; exact this
    refine hfin _ u W (by show (fillL u l 0 a.tmps).size = n; rw [fillL_size]; exact F.sz) F.df (fun s v hs => ?_) (fun j d hj => ?_) hR
    · show (fillL u l 0 a.tmps)[s]? = some v
      unfold lastAt at hs
      cases hw : writer s l 0 with
      | none =>
        rw [hw] at hs
        rw [fillL_other u l 0 a.tmps s (writer_none hw)]
        exact F.look hs
      | some j =>
        rw [hw] at hs
        obtain ⟨_, oj, hoj, hdj⟩ := writer_some hw
        rw [Nat.sub_zero] at hoj
        rw [hown j oj s hoj hdj]
        simp only at hs
        have hvj : vs[j]? = some (some v) := by
          cases hx : vs[j]? with
          | none => rw [hx] at hs; simp at hs
          | some x => rw [hx] at hs; simp at hs; rw [hs]
        rw [(hk j).1 (by simpa using (List.getElem?_eq_some_iff.1 hoj).1) v hvj]
    · cases hoj : l[j]? with
      | none => rw [hoj] at hj; simp at hj
      | some oj =>
        rw [hoj] at hj
        exact hown j oj d hoj (by simpa using hj)
  have hk0 : ∀ u, fillL u l 0 a.tmps = a.tmps → Kv l vs a.tmps (fun _ => false) u := fun u hself j => ⟨(fun h => by cases h), fun _ o d v ho hd hv => fillL_was hself ok.nod j ho hd hv⟩
  cases d with
  | true =>
    refine region_inv2 (F := { Fence.wide with round := ro }) hm ok.dag ok.nod (fun _ => trivial) (fun done u W => (∀ i, l.length ≤ i → done i = false) ∧ Kv l vs a.tmps done u ∧ R done u W) (fun u hself => ⟨fun _ _ => rfl, hk0 u hself, (h0 u).2⟩) ?_ (fun u W ⟨done, hd, hb, hk, hR⟩ => hfin' done u W (fun i => by
      by_cases h : i < l.length
      · rw [hd i h]; simp [h]
      · rw [hb i (by omega)]; simp [h]) hk hR)
    have hall : ∀ (l' : List Oper) (k : Nat), (∀ i o, l'[i]? = some o → l[k + i]? = some o) → AllIdx (StepX P l vs L Q R) l' k → AllIdx (fun i o => ∀ (u : Nat → Value) (done : Nat → Bool) (W : World), done i = false → (∀ j ∈ anc l l.length (fore o), done j = true) → (∀ j oj, l[j]? = some oj → done j = true → ∀ k ∈ anc l l.length (fore oj), done k = true) → ((∀ i, l.length ≤ i → done i = false) ∧ Kv l vs a.tmps done u ∧ R done u W) →
        if Region.wanted o (yielded l.toArray (fillL u l 0 a.tmps)) then o.wpIn { Fence.wide with round := ro } 0 P { a with tmps := fillL u l 0 a.tmps } W (fun a' W' => ∃ v, a' = ({ a with tmps := fillL u l 0 a.tmps } : Act).put o.dst v ∧ ((∀ i', l.length ≤ i' → upd done i i' = false) ∧ Kv l vs a.tmps (upd done i) (fun j => if j = i then v else u j) ∧ R (upd done i) (fun j => if j = i then v else u j) W')) Q
        else ((∀ i', l.length ≤ i' → upd done i i' = false) ∧ Kv l vs a.tmps (upd done i) (fun j => if j = i then undef else u j) ∧ R (upd done i) (fun j => if j = i then undef else u j) W)) l' k := by
      intro l'
      induction l' with
      | nil => intro k _ _; trivial
      | cons o r ih =>
        intro k hl hs
        refine ⟨fun u done W hd hanc hclo ⟨hb, hk, hR⟩ => ?_, ih (k + 1) (fun i o h => by have := hl (i + 1) o (by simpa using h); rw [show k + 1 + i = k + (i + 1) by omega]; exact this) hs.2⟩
        have ho : l[k]? = some o := by simpa using hl 0 o (by simp)
        have hlt : k < l.length := (List.getElem?_eq_some_iff.1 ho).1
        have hb' : ∀ i', l.length ≤ i' → upd done k i' = false := fun i' hi' => by rw [upd_ne (by omega)]; exact hb i' hi'
        have hst := hs.1 _ done u W (ste_of F ok ho hd hanc hclo hk) hR
        by_cases hw : Region.wanted o (yielded l.toArray (fillL u l 0 a.tmps)) = true
        · rw [if_pos hw] at hst ⊢
          refine wpIn_of_wp (ro := ro) (fun c hc => ?_) (hst _ (fun v W' hv hR' => ⟨v, rfl, hb', hk.put hv, hR'⟩))
          have := ok.ndf
          rw [List.all_eq_true] at this
          have := this o (List.mem_of_getElem? ho)
          rw [hc] at this; cases this
        · rw [if_neg hw] at hst ⊢
          exact ⟨hb', hk.put (fun x hx => by rw [hst.1] at hx; cases hx), hst.2⟩
    exact hall l 0 (fun i o h => by simpa using h) hstep
  | false =>
    refine wpIn_region_L ok.ndf ?_
    obtain ⟨u0, hself⟩ : ∃ u0 : Nat → Value, fillL u0 l 0 a.tmps = a.tmps :=
      ⟨fun i => match l[i]? with | some o => (match o.dst with | some d => a.tmps.getD d undef | none => undef) | none => undef, by
        apply fillL_self
        intro i o d hi hd _
        simp only [Nat.zero_add, hi, hd]⟩
    have hfore : ∀ i o, l[i]? = some o → ∀ k ∈ fore o, k < i := by
      intro i o hi k hk
      have hdag := ok.dag
      rw [List.all_eq_true] at hdag
      have hmem : (o, i) ∈ l.zipIdx := by rw [List.mem_zipIdx_iff_getElem?]; exact hi
      have := hdag (o, i) hmem
      simp only [List.all_eq_true, decide_eq_true_eq] at this
      exact this k hk
    have main : ∀ (r : List Oper) (k : Nat) (u : Nat → Value) (W : World), (∀ i, r[i]? = l[k + i]?) → k + r.length = l.length → AllIdx (StepX P l vs L Q R) r k → Kv l vs a.tmps (fun j => decide (j < k)) u → R (fun j => decide (j < k)) u W →
        wpL P l.toArray Q r { a with tmps := fillL u l 0 a.tmps } W := by
      intro r
      induction r with
      | nil =>
        intro k u W _ hlen _ hk hR
        have hkl : k = l.length := by simpa using hlen
        subst hkl
        exact hfin' _ u W (fun i => rfl) hk hR
      | cons o r ih =>
        intro k u W hl hlen hs hk hR
        have ho : l[k]? = some o := by have := hl 0; simpa using this.symm
        have hup : (fun j => decide (j < k + 1)) = upd (fun j => decide (j < k)) k := by
          funext j
          unfold upd
          by_cases e : j = k
          · subst e; simp
          · rw [if_neg e]; congr 1; apply propext; constructor <;> intro h <;> omega
        have hst := hs.1 _ _ u W (ste_of F ok ho (by simp) (fun j hj => by have := hlt_anc l hfore k o ho j hj; simpa using this) (fun j oj hoj hj k' hk' => by
          have h1 := hlt_anc l hfore j oj hoj k' hk'
          simp at hj ⊢; omega) hk) hR
        have hnext : ∀ v W', (∀ x, vs[k]? = some (some x) → v = x) → R (upd (fun j => decide (j < k)) k) (fun j => if j = k then v else u j) W' → wpL P l.toArray Q r (({ a with tmps := fillL u l 0 a.tmps } : Act).put o.dst v) W' := by
          intro v W' hv hR'
          have hput : (({ a with tmps := fillL u l 0 a.tmps } : Act).put o.dst v) = { a with tmps := fillL (fun j => if j = k then v else u j) l 0 a.tmps } := by
            cases hd : o.dst with
            | none =>
              simp only [Act.put]
              rw [fillL_none u v l 0 k a.tmps o ho hd, Nat.zero_add]
            | some d =>
              simp only [Act.put]
              rw [fillL_put u v l 0 k a.tmps o d ok.nod ho hd, Nat.zero_add]
          rw [hput]
          refine ih (k + 1) _ W' (fun i => by have := hl (i + 1); simp at this; rw [this]; congr 1; omega) (by simp at hlen; omega) hs.2 ?_ ?_
          · rw [hup]; exact hk.put hv
          · rw [hup]; exact hR'
        refine wpL_step fun K hK => ?_
        by_cases hw : Region.wanted o (yielded l.toArray (fillL u l 0 a.tmps)) = true
        · rw [if_pos hw] at hst ⊢
          exact hst K (fun v W' hv hR' => hK _ _ (hnext v W' hv hR'))
        · rw [if_neg hw] at hst ⊢
          exact hK _ _ (hnext undef W (fun x hx => by rw [hst.1] at hx; cases hx) hst.2)
    have := main l 0 u0 w (fun i => by simp) (by simp) hstep (by
      have := hk0 u0 hself
      simpa using this) (by simpa using (h0 u0).1)
    rw [hself] at this
    exact this
theorem region_x {P : Program} {id : Nat} {l : List Oper} {d : Bool} {Q : Exit → Act → World → Prop} {a : Act} {w : World} {n : Nat} {L : List (Nat × Value)} {D : List Deferred} (F : Fr a n L D) (vs : List (Option Value)) (R : (Nat → Bool) → (Nat → Value) → World → Prop)
    (hm : P.follows .mixedOrders = true) (ok : RegOk l vs n) (h0 : ∀ u, R (fun _ => false) u w ∧ R (fun _ => false) u w.drew)
    (hstep : AllIdx (StepX P l vs L Q R) l 0)
    (hfin : ∀ (A : Act) (u : Nat → Value) (W : World), A.tmps.size = n → A.defers = D → (∀ s v, lastAt l vs L s = some v → A.tmps[s]? = some v) → (∀ j d, ((l[j]?).bind fun o : Oper => o.dst) = some d → A.tmps[d]? = some (u j)) → R (fun j => decide (j < l.length)) u W → Q .normal A W) :
    (Code.region id l.toArray d).wp P Q a w := (wpIn_wide (n := 0)).1 (region_xi (ro := none) F vs R hm ok h0 hstep hfin)
end
end Go.Proofs.Ytlilojpnhmfnaaa
