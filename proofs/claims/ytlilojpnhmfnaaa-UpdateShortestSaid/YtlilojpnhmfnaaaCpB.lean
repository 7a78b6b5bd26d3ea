/- Contract: CheckPlan. -/
import Derived.Test.YtlilojpnhmfnaaaCpA
namespace Go.Proofs.Ytlilojpnhmfnaaa
open Go.RowKit

theorem beginE_all {f : Fl} {bu : Int} {a : List Int} {L : List (List Int)} (h : beginE f bu (a :: L) = 0) : FlOk f ∧ StOk f a ∧ ∀ j, j < L.length → StOk f (L[j]?.getD []) := by
  have hz : statesE f (a :: L) = 0 := by
    unfold beginE at h
    by_cases hz : statesE f (a :: L) = 0
    · exact hz
    · rw [if_neg hz] at h; exact absurd h hz
  obtain ⟨hchk, hsts⟩ := statesE_zero hz
  simp only [stsB, List.all_eq_true, List.mem_range] at hsts
  refine ⟨chkB_ok hchk, stB_ok (by simpa using hsts 0 (by simp)), fun j hj => stB_ok ?_⟩
  have := hsts (j + 1) (by simp; omega)
  simpa using this

set_option maxRecDepth 100000 in
set_option maxHeartbeats 4000000 in
theorem checkPlan_any (ta ca a pa : Option Addr) (tn tc cn cc n c pn pc : Nat) (f : Fl) (xs : List Int) (L : List (List Int)) (bu : Int) (w : World) (hf : FlAt w ta tn ca cn f) (hx : Ints w a n xs) (hL : RowsAt w pa pn L) :
    Calls Try.prog 23 #[.agg #[.slice ta tn tc, .slice ca cn cc], .slice a n c, .slice pa pn pc, .int .i64 bu] w fun e w' => e = .returned (.tuple #[.int .i64 (cpR f xs L bu).1, .int .i64 (cpR f xs L bu).2]) ∧ Gr w w' := by
  have g1 := Gr.alloc w (.cells #[.slice ta tn tc, .slice ca cn cc] 25)
  have c0 := cell_new (w := w) (t := 25) (cs := #[.slice ta tn tc, .slice ca cn cc]) (j := 0) rfl
  have c1 := cell_new (w := w) (t := 25) (cs := #[.slice ta tn tc, .slice ca cn cc]) (j := 1) rfl
  obtain ⟨w1, hw1⟩ : ∃ w1, w.alloc (.cells #[.slice ta tn tc, .slice ca cn cc] 25) = w1 := ⟨_, rfl⟩
  rw [hw1] at g1 c0 c1
  have HC := Lib.hid (check_any ta ca tn tc cn cc f w1 (hf.gr g1))
  have hpl := hL.lt
  by_cases he : chkE f = 0
  · have heb : (chkE f != 0) = false := by simp [he]
    by_cases h64 : 64 < pn
    · have HP : Hid (cpR f xs L bu = (0, 1)) := Lib.hid (by unfold cpR cpPre; rw [if_pos he, hL.len, if_pos h64]; rfl)
      clear he
      go_enter Try.func23, Try.ntmps23
      go_wp2_with fail
      refine HC.out.mono ?_
      rintro e w3 ⟨rfl, g3⟩
      go_wp2_with fail
      go_ret2
      exact ⟨by rw [HP.out]; rfl, g1.trans g3⟩
    have HPRE : Hid (cpPre f xs L bu = beginE f bu (xs :: L)) := Lib.hid (by unfold cpPre; rw [if_pos he, hL.len, if_neg h64])
    have HE := Lib.hid he
    clear he
    go_enter Try.func23, Try.ntmps23
    go_wp2_with fail
    refine HC.out.mono ?_
    rintro e w3 ⟨rfl, g3⟩
    have G3 := g1.trans g3
    have d0 := (g3.cell (lt_cell c0)).trans c0
    have d1 := (g3.cell (lt_cell c1)).trans c1
    clear hw1 c0 c1 HC g1 g3
    have c0 := d0
    have c1 := d1
    clear d0 d1
    have hf3 := hf.gr G3
    have hx3 := hx.gr G3
    have hL3 := hL.gr G3
    go_wp2_with fail
    refine (wpIn_wide (n := 0)).1 ?_
    refine region_inv (F := Fence.wide) (by kernel_rfl) (by rfl) (by decide) (fun _ => trivial)
      (fun done' u W' => Kn [some (.agg #[.slice ta tn tc, .slice ca cn cc]), some (.int .i64 bu), some (.slice a n c), none, some (.slice pa pn pc), none, some (.int .i64 (beginE f bu (xs :: L))), some (.int .i64 (beginE f bu (xs :: L)))] done' u ∧ R23 w3 (.slice a n c) xs L (pn + 1) done' u W')
      (fun u => ⟨Kn.start _ _, R23.start w3 (.slice a n c) xs L (pn + 1) u⟩) ⟨?_, ?_, ?_, ?_, ?_, ?_, ?_, ?_, trivial⟩ ?_
    · rintro u done' W' hd hanc hclo ⟨hk, hR⟩
      have c_c0 := (hR.gr.cell (lt_cell c0)).trans c0
      have c_c1 := (hR.gr.cell (lt_cell c1)).trans c1
      refine op_plain (ro := none) rfl (fun c h => by cases h) fun K hK => ?_
      simp only [fillL, List.setIfInBounds_toArray, List.set_cons_zero, List.set_cons_succ, Nat.zero_add, Nat.reduceAdd] at hK ⊢
      go_simp
      exact hK _ _ ⟨hk.new rfl, hR.quiet (by decide) (by decide)⟩
    · rintro u done' W' hd hanc hclo ⟨hk, hR⟩
      refine op_plain (ro := none) rfl (fun c h => by cases h) fun K hK => ?_
      simp only [fillL, List.setIfInBounds_toArray, List.set_cons_zero, List.set_cons_succ, Nat.zero_add, Nat.reduceAdd] at hK ⊢
      go_simp
      exact hK _ _ ⟨hk.new rfl, hR.quiet (by decide) (by decide)⟩
    · rintro u done' W' hd hanc hclo ⟨hk, hR⟩
      refine op_plain (ro := none) rfl (fun c h => by cases h) fun K hK => ?_
      simp only [fillL, List.setIfInBounds_toArray, List.set_cons_zero, List.set_cons_succ, Nat.zero_add, Nat.reduceAdd] at hK ⊢
      go_simp
      exact hK _ _ ⟨hk.new rfl, hR.quiet (by decide) (by decide)⟩
    · rintro u done' W' hd hanc hclo ⟨hk, hR⟩
      have e2 := hk.get 2 rfl (hanc 2 (mem_of (by kernel_rfl)))
      refine op_plain (ro := none) rfl (fun c h => by cases h) fun K hK => ?_
      simp only [fillL, List.setIfInBounds_toArray, List.set_cons_zero, List.set_cons_succ, Nat.zero_add, Nat.reduceAdd, e2] at hK ⊢
      go_simp
      exact hK _ _ ⟨hk.skip rfl, hR.made (not_done hclo hd 5 rfl (by kernel_rfl))⟩
    · rintro u done' W' hd hanc hclo ⟨hk, hR⟩
      refine op_plain (ro := none) rfl (fun c h => by cases h) fun K hK => ?_
      simp only [fillL, List.setIfInBounds_toArray, List.set_cons_zero, List.set_cons_succ, Nat.zero_add, Nat.reduceAdd] at hK ⊢
      go_simp
      exact hK _ _ ⟨hk.new rfl, hR.quiet (by decide) (by decide)⟩
    · rintro u done' W' hd hanc hclo ⟨hk, hR⟩
      have e4 := hk.get 4 rfl (hanc 4 (mem_of (by kernel_rfl)))
      have h3 := hanc 3 (mem_of (by kernel_rfl))
      obtain ⟨g0, e3, hge, hg0⟩ := hR.one hd h3
      refine op_plain (ro := none) rfl (fun c h => by cases h) fun K hK => ?_
      simp only [fillL, List.setIfInBounds_toArray, List.set_cons_zero, List.set_cons_succ, Nat.zero_add, Nat.reduceAdd, e3, e4] at hK ⊢
      refine cp_append (sa := a) (n := n) (c := c) (xs := xs) (L := L) (pa := pa) (pn := pn) (pc := pc) (g := g0) (w3 := w3) rfl rfl rfl hg0 hge hR.gr hx3 hL3 (by omega) ?_
      intro ra rc w6 hrows g6
      exact hK _ _ ⟨hk.skip rfl, hR.app hrows g6⟩
    · rintro u done' W' hd hanc hclo ⟨hk, hR⟩
      have e0 := hk.get 0 rfl (hanc 0 (mem_of (by kernel_rfl)))
      have e1 := hk.get 1 rfl (hanc 1 (mem_of (by kernel_rfl)))
      have h5 := hanc 5 (mem_of (by kernel_rfl))
      obtain ⟨ra, rc, e5, hrows⟩ := hR.all h5
      have HCON := Lib.hid (begin_any ta ca ra tn tc cn cc (pn + 1) rc f bu (xs :: L) W' (hf3.gr hR.gr) hrows)
      refine op_plain (ro := none) rfl (fun c h => by cases h) fun K hK => ?_
      simp only [fillL, List.setIfInBounds_toArray, List.set_cons_zero, List.set_cons_succ, Nat.zero_add, Nat.reduceAdd, e0, e1, e5] at hK ⊢
      go_simp
      refine HCON.out.mono ?_
      rintro e w6 ⟨rfl, g6⟩
      exact hK _ _ ⟨hk.new rfl, hR.call h5 g6⟩
    · rintro u done' W' hd hanc hclo ⟨hk, hR⟩
      have e6 := hk.get 6 rfl (hanc 6 (mem_of (by kernel_rfl)))
      refine op_plain (ro := none) rfl (fun c h => by cases h) fun K hK => ?_
      simp only [fillL, List.setIfInBounds_toArray, List.set_cons_zero, List.set_cons_succ, Nat.zero_add, Nat.reduceAdd, e6] at hK ⊢
      go_simp
      exact hK _ _ ⟨hk.new rfl, hR.quiet (by decide) (by decide)⟩
    · rintro u W' ⟨done', hdn, hk, hR⟩
      have e7 := hk.get 7 rfl (hdn 7 (by decide))
      have hg4 := hR.gr
      simp only [fillL, List.setIfInBounds_toArray, List.set_cons_zero, List.set_cons_succ, Nat.zero_add, Nat.reduceAdd, e7]
      clear hk hdn hR e7
      have G4 := G3.trans hg4
      have k0 := (hg4.cell (lt_cell c0)).trans c0
      have k1 := (hg4.cell (lt_cell c1)).trans c1
      clear c0 c1
      by_cases hbe : beginE f bu (xs :: L) = 0
      · have hbb : (beginE f bu (xs :: L) != 0) = false := by simp [hbe]
        have hok := (beginE_all hbe).1
        have hst := (beginE_all hbe).2.1
        have hall := (beginE_all hbe).2.2
        have hnt : n = f.times.length := by rw [← hst.len, hx.len]
        have HPR : Hid (cpR f xs L bu = if worksB f xs then cpLoop f bu xs L 0 else (-1, 111)) := Lib.hid (by unfold cpR; rw [HPRE.out, if_pos hbe])
        have HNT := Lib.hid hnt
        have HALL := Lib.hid hall
        have HBE := Lib.hid hbe
        clear hbe hnt hall
        have HW := Lib.hid (works_any ta ca a tn tc cn cc n c f xs W' (hf.gr G4) hok (hx.gr G4) hst)
        go_wp2_with fail
        refine HW.out.mono ?_
        rintro e w5 ⟨rfl, g5⟩
        have G5 := G4.trans g5
        have j0 := (g5.cell (lt_cell k0)).trans k0
        have j1 := (g5.cell (lt_cell k1)).trans k1
        clear k0 k1 HW
        cases hwx : worksB f xs with
        | false =>
          have HP : Hid (cpR f xs L bu = (-1, 111)) := Lib.hid (by rw [HPR.out, hwx]; rfl)
          go_wp2_with fail
          go_ret2
          exact ⟨by rw [HP.out]; rfl, G5⟩
        | true =>
          have HP : Hid (cpR f xs L bu = cpLoop f bu xs L 0) := Lib.hid (by rw [HPR.out, hwx]; rfl)
          clear HPR
          have hpn := hL.lt
          go_wp2_with fail
          go_loopw [1, 38] (fun s i wr => ∃ (k : Nat) (p : List Int) (qa : Option Addr) (qc : Nat), k ≤ pn ∧ i = .int .i64 k ∧ s = .slice qa n qc ∧ Gr w wr ∧ Ints wr qa n p ∧ StOk f p ∧ wr.cell? ⟨w.heap.size, 0, none⟩ = some (.slice ta tn tc) ∧ wr.cell? ⟨w.heap.size, 1, none⟩ = some (.slice ca cn cc) ∧ Hid (cpLoop f bu xs L 0 = cpLoop f bu p (L.drop k) k)) (fun _ i _ => pn - (intOf i).toNat)
          case atStart => exact ⟨0, xs, a, c, Nat.zero_le _, rfl, rfl, G5, hx.gr G5, hst, j0, j1, Lib.hid (by simp)⟩
          case round =>
            obtain ⟨k, p, qa, qc, hk, rfl, rfl, gr, hp, hps, m0, m1, HL⟩ := hrel
            by_cases hlt : k < pn
            · obtain ⟨pd, ya, yn, yc, rfl, hpb, hpc, hyi⟩ := (hL.gr gr).at hlt
              have hys : StOk f (L[k]?.getD []) := HALL.out k (by rw [hL.len]; exact hlt)
              have hyn : yn = n := by rw [← hyi.len, hys.len]; exact HNT.out.symm
              subst hyn
              have hdr : Hid (L.drop k = (L[k]?.getD []) :: L.drop (k + 1)) := Lib.hid (by
                have hl : k < L.length := by rw [hL.len]; exact hlt
                rw [List.drop_eq_getElem_cons hl]; simp [hl])
              generalize L[k]?.getD [] = y at *
              have HW := Lib.hid (works_any ta ca ya tn tc cn cc yn yc f y wr (hf.gr gr) hok hyi hys)
              go_wp2_with fail
              refine HW.out.mono ?_
              rintro e w6 ⟨rfl, g6⟩
              have G6 := gr.trans g6
              have q0 := (g6.cell (lt_cell m0)).trans m0
              have q1 := (g6.cell (lt_cell m1)).trans m1
              clear HW m0 m1
              cases hwy : worksB f y with
              | false =>
                have HF : Hid (cpR f xs L bu = ((k : Int), 111)) := Lib.hid (by rw [HP.out, HL.out, hdr.out]; simp [cpLoop, hwy])
                go_wp2_with fail
                go_ret2
                exact ⟨by rw [HF.out]; rfl, G6⟩
              | true =>
                have HS := Lib.hid (steps_any ta ca qa ya tn tc cn cc yn qc yc f p y bu w6 (hf.gr G6) hok (hp.gr g6) (hyi.gr g6) hps hys)
                go_wp2_with fail
                refine HS.out.mono ?_
                rintro e w7 ⟨rfl, g7⟩
                have G7 := G6.trans g7
                have q2 := (g7.cell (lt_cell q0)).trans q0
                have q3 := (g7.cell (lt_cell q1)).trans q1
                clear HS q0 q1
                cases hsy : stepsB f.times p y bu with
                | false =>
                  have HF : Hid (cpR f xs L bu = ((k : Int), 112)) := Lib.hid (by rw [HP.out, HL.out, hdr.out]; simp [cpLoop, hwy, hsy])
                  go_wp2_with fail
                  go_ret2
                  exact ⟨by rw [HF.out]; rfl, G7⟩
                | true =>
                  have HF : Hid (cpLoop f bu xs L 0 = cpLoop f bu y (L.drop (k + 1)) ((k + 1 : Nat) : Int)) := Lib.hid (by rw [HL.out, hdr.out]; simp [cpLoop, hwy, hsy])
                  have hy7 := (hyi.gr g6).gr g7
                  go_wp2_with fail
                  go_roundw
                  case rel => exact ⟨k + 1, y, ya, yc, by omega, by go_num, rfl, G7, hy7, hys, q2, q3, HF⟩
                  case measure => simp [intOf]; omega
            · obtain rfl : k = pn := by omega
              have HF : Hid (cpR f xs L bu = (0, 0)) := Lib.hid (by rw [HP.out, HL.out, List.drop_eq_nil_of_le (by rw [hL.len]; exact Nat.le_refl _)]; rfl)
              go_wp2_with fail
              go_ret2
              exact ⟨by rw [HF.out]; rfl, gr⟩
      · have hbb : (beginE f bu (xs :: L) != 0) = true := by simp [hbe]
        have HP : Hid (cpR f xs L bu = (0, beginE f bu (xs :: L))) := Lib.hid (by unfold cpR; rw [HPRE.out, if_neg hbe])
        clear hbe
        go_wp2_with fail
        go_ret2
        exact ⟨by rw [HP.out]; rfl, G4⟩
  · have heb : (chkE f != 0) = true := by simp [he]
    have HP : Hid (cpR f xs L bu = (0, chkE f)) := Lib.hid (by unfold cpR cpPre; rw [if_neg he, if_neg he])
    clear he
    go_enter Try.func23, Try.ntmps23
    go_wp2_with fail
    refine HC.out.mono ?_
    rintro e w3 ⟨rfl, g3⟩
    go_wp2_with fail
    go_ret2
    exact ⟨by rw [HP.out]; rfl, g1.trans g3⟩
end Go.Proofs.Ytlilojpnhmfnaaa
