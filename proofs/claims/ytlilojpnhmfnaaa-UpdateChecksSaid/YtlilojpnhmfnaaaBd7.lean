/- Several texts of this claim in one file. (1) Contracts: the reference's Interrupt; Back and the reference's. (2) Contracts: Back and the reference's. (3) Contract: UpdateChecks returns true. -/
import Derived.Test.YtlilojpnhmfnaaaBd6
import Derived.Test.YtlilojpnhmfnaaaBd3
namespace Go.Proofs.Ytlilojpnhmfnaaa
section
open Go.RowKit

theorem drop_atL {L : List (List Int)} {k : Nat} (h : k < L.length) : L.drop k = (L[k]?.getD []) :: L.drop (k + 1) := by
  rw [List.drop_eq_getElem_cons h]; simp [h]

set_option maxRecDepth 100000 in
set_option maxHeartbeats 4000000 in
theorem interrupt2_any (ta ca a pa ma : Option Addr) (tn tc cn cc n c pn pc mn mc : Nat) (f : Fl) (xs ms : List Int) (L : List (List Int)) (bu : Int) (w : World) (hf : FlAt w ta tn ca cn f) (hx : Ints w a n xs) (hL : RowsAt w pa pn L) (hm : Ints w ma mn ms) :
    Calls Try.prog 31 #[.agg #[.slice ta tn tc, .slice ca cn cc], .slice a n c, .slice pa pn pc, .int .i64 bu, .slice ma mn mc] w (PlanPost w (intV f xs L bu ms) (intE f xs L bu ms)) := by
  have g1 := Gr.alloc w (.cells #[.slice ta tn tc, .slice ca cn cc] 25)
  have c0 := cell_new (w := w) (t := 25) (cs := #[.slice ta tn tc, .slice ca cn cc]) (j := 0) rfl
  have c1 := cell_new (w := w) (t := 25) (cs := #[.slice ta tn tc, .slice ca cn cc]) (j := 1) rfl
  obtain ⟨w1, hw1⟩ : ∃ w1, w.alloc (.cells #[.slice ta tn tc, .slice ca cn cc] 25) = w1 := ⟨_, rfl⟩
  rw [hw1] at g1 c0 c1
  have HC := Lib.hid (checkPlan2_any ta ca a pa tn tc cn cc n c pn pc f xs L bu w1 (hf.gr g1) (hx.gr g1) (hL.gr g1))
  have hml := hm.lt
  have hpl0 := hL.lt
  by_cases he : (cpR f xs L bu).2 = 0
  · have heb : ((cpR f xs L bu).2 != 0) = false := by simp [he]
    have HE : Hid (intE f xs L bu ms = (if 64 < ms.length then 1 else if ms.any (fun n => decide (n < 0)) then 1 else 0)) := Lib.hid (by unfold intE; rw [if_pos he])
    have hpl := cpR_pl he
    have HPL := Lib.hid hpl
    have hn1 : 0 < n := by have := hpl.ok.n1; have := hpl.a.len; have := hx.len; omega
    have hn6 : n ≤ 6 := by have := hpl.ok.n6; have := hpl.a.len; have := hx.len; omega
    clear hpl
    clear he
    by_cases h64 : 64 < mn
    · have HP : Hid (intE f xs L bu ms = 1 ∧ intV f xs L bu ms = []) := Lib.hid (by
        have : intE f xs L bu ms = 1 := by rw [HE.out, hm.len, if_pos h64]
        exact ⟨this, by unfold intV; rw [this]; rfl⟩)
      have h64' : (64 : Int) < mn := by omega
      go_enter Try.func31, Try.ntmps31
      go_wp2_with fail
      refine HC.out.mono ?_
      rintro e w3 ⟨rfl, g3⟩
      go_wp2_with fail
      go_ret2
      exact ⟨none, 0, 0, by rw [HP.out.1]; rfl, by rw [HP.out.2]; exact RowsAt.nil _, g1.trans g3⟩
    have h64' : ¬ (64 : Int) < mn := by omega
    go_enter Try.func31, Try.ntmps31
    go_wp2_with fail
    refine HC.out.mono ?_
    rintro e w3 ⟨rfl, g3⟩
    have G3 := g1.trans g3
    have e0 := (g3.cell (lt_cell c0)).trans c0
    have e1 := (g3.cell (lt_cell c1)).trans c1
    clear hw1 c0 c1 HC g1 g3
    have hm3 := hm.gr G3
    have hf3 := hf.gr G3
    have hL3 := hL.gr G3
    have hx3 := hx.gr G3
    have HML := Lib.hid hm.len
    have HLL := Lib.hid hL.len
    go_wp2_with fail
    go_loop [14] (fun i => ∃ k : Nat, k ≤ mn ∧ i = .int .i64 k ∧ Hid (∀ j, j < k → decide (ms[j]?.getD 0 < 0) = false)) (fun i => mn - (intOf i).toNat)
    case atStart => exact ⟨0, Nat.zero_le _, rfl, Lib.hid (by intros; omega)⟩
    case round =>
      obtain ⟨k, hk, rfl, hall⟩ := hrel
      by_cases hlt : k < mn
      · obtain ⟨md, rfl, hmb, hmc⟩ := hm3.at hlt
        by_cases hng : ms[k]?.getD 0 < 0
        · have HP : Hid (intE f xs L bu ms = 1 ∧ intV f xs L bu ms = []) := Lib.hid (by
            have : intE f xs L bu ms = 1 := by rw [HE.out, hm.len, if_neg h64, any_hit (p := fun n => decide (n < 0)) (k := k) (by rw [HML.out]; exact hlt) (by simpa using hng)]; rfl
            exact ⟨this, by unfold intV; rw [this]; rfl⟩)
          go_wp2_with fail
          go_ret2
          exact ⟨none, 0, 0, by rw [HP.out.1]; rfl, by rw [HP.out.2]; exact RowsAt.nil _, G3⟩
        · go_wp2_with fail
          go_round
          case rel => exact ⟨k + 1, by omega, by go_num, Lib.hid (fun j hj => by
            by_cases e : j = k
            · subst e; simpa using hng
            · exact hall.out j (by omega))⟩
          case measure => simp [intOf]; omega
      · obtain rfl : k = mn := by omega
        have HP : Hid (intE f xs L bu ms = 0 ∧ intV f xs L bu ms = intr f.times xs L ms) := Lib.hid (by
          have : intE f xs L bu ms = 0 := by rw [HE.out, hm.len, if_neg h64, any_none (p := fun n => decide (n < 0)) (fun j hj => hall.out j (by rw [← HML.out]; exact hj))]; rfl
          exact ⟨this, by unfold intV; rw [this]; rfl⟩)
        clear hall HE
        go_wp2_with (at_builtin; refine wpList_copy rfl rfl rfl rfl hx3 hn1 (by omega) ?_; intro g4 c4 w4 hq4 h34 hge4 hg4)
        go_wp2_with fail
        go_loopw [15, 16, 17, 18] (fun o q d i wr => ∃ (t j : Nat) (cur : List Int) (qg qc : Nat) (Lo : List (List Int)), t ≤ k ∧ j ≤ pn ∧ i = .int .i64 t ∧ d = .int .i64 j ∧ q = .slice (some ⟨qg, 0, none⟩) n qc ∧ Gr w3 wr ∧ Ints wr (some ⟨qg, 0, none⟩) n cur ∧ Is3 wr qg ∧ OutR wr w3.heap.size o Lo ∧ Lo.length = t ∧ Hid (PlOk f bu cur (L.drop j)) ∧ Hid (Lo ++ intr f.times cur (L.drop j) (ms.drop t) = intr f.times xs L ms)) (fun _ _ _ i _ => k - (intOf i).toNat)
        case atStart => exact ⟨0, 0, xs, g4, c4, [], Nat.zero_le _, Nat.zero_le _, rfl, rfl, rfl, hg4, hq4, h34, OutR.nil _ _, rfl, HPL, Lib.hid (by simp)⟩
        case round =>
          obtain ⟨t, j, cur, qg, qc, Lo, ht, hj, rfl, rfl, rfl, gr, hq, h3q, hO, hlo, HPL, HT⟩ := hrel
          have m0 := (gr.cell (lt_cell e0)).trans e0
          have m1 := (gr.cell (lt_cell e1)).trans e1
          by_cases hlt2 : t < k
          · obtain ⟨md, rfl, hmb, hmc⟩ := (hm3.gr gr).at hlt2
            have hdr : Hid (ms.drop t = (ms[t]?.getD 0) :: ms.drop (t + 1)) := Lib.hid (drop_at (by rw [HML.out]; exact hlt2))
            generalize hmi : ms[t]?.getD 0 = mi at *
            clear hmi
            by_cases hjl : j < pn
            · obtain ⟨pd, ya, yn, yc, rfl, hpb, pcell, hyi⟩ := (hL3.gr gr).at hjl
              have hdl : Hid (L.drop j = (L[j]?.getD []) :: L.drop (j + 1)) := Lib.hid (drop_atL (by rw [HLL.out]; exact hjl))
              generalize L[j]?.getD [] = s at *
              rw [hdl.out] at HPL HT
              have hst := HPL.out.step
              have hyn : yn = n := by rw [← hyi.len, hst.2.len, ← HPL.out.a.len, hq.len]
              subst hyn
              obtain ⟨n, hnn⟩ : ∃ n, n = yn := ⟨_, rfl⟩
              subst hnn
              have hsd := stepV_dur HPL.out.ok HPL.out.a hst.2 hst.1
              have HDU : Hid (∀ W, Gr wr W → Calls Try.prog 70 #[.agg #[.slice ta tn tc, .slice ca cn cc], .slice (some ⟨qg, 0, none⟩) n qc, .slice ya n yc] W fun e w' => e = .returned (.int .i64 (dur f.times cur s)) ∧ Gr W w') := Lib.hid (fun W g => by
                have := step_any ta ca (some ⟨qg, 0, none⟩) ya tn tc cn cc n qc yc f cur s W (hf3.gr (gr.trans g)) HPL.out.ok (hq.gr g) (hyi.gr g) HPL.out.a hst.2
                rw [hsd] at this; exact this)
              obtain ⟨tb, htb, HTB⟩ : ∃ tb, decide (dur f.times cur s ≤ mi) = tb ∧ Hid (tb = decide (dur f.times cur s ≤ mi)) := ⟨_, rfl, Lib.hid rfl⟩
              have HTL := Lib.hid HPL.out.tail
              clear hpb hst hsd
              go_wp2_with fail
              refine (wpIn_wide (n := 0)).1 ?_
              refine region_inv (F := Fence.wide) (by kernel_rfl) (by rfl) (by decide) (fun _ => trivial)
                (fun done' u W' => Kn [some (.int .i64 j), some (.slice (some pd) pn pc), some (.int .i64 pn), some (.bool true), some (.bool true), some (.agg #[.slice ta tn tc, .slice ca cn cc]), some (.slice (some ⟨qg, 0, none⟩) n qc), some (.slice (some pd) pn pc), some (.int .i64 j), some (.pointer (some (pd.add j))), some (.slice ya n yc), some (.int .i64 (dur f.times cur s)), some (.slice (some md) k mc), some (.int .i64 t), some (.pointer (some (md.add t))), some (.int .i64 mi), some (.bool tb), some (.bool tb)] done' u ∧ Gr wr W')
                (fun u => ⟨Kn.start _ _, Gr.drew wr⟩) ⟨?_, ?_, ?_, ?_, ?_, ?_, ?_, ?_, ?_, ?_, ?_, ?_, ?_, ?_, ?_, ?_, ?_, ?_, trivial⟩ ?_
              · rintro u done' W' hd hanc hclo ⟨hk, hg⟩
                refine op_plain (ro := none) rfl (fun c h => by cases h) fun K hK => ?_
                simp only [fillL, List.setIfInBounds_toArray, List.set_cons_zero, List.set_cons_succ, Nat.zero_add, Nat.reduceAdd] at hK ⊢
                go_simp
                exact hK _ _ ⟨hk.new rfl, hg⟩
              · rintro u done' W' hd hanc hclo ⟨hk, hg⟩
                refine op_plain (ro := none) rfl (fun c h => by cases h) fun K hK => ?_
                simp only [fillL, List.setIfInBounds_toArray, List.set_cons_zero, List.set_cons_succ, Nat.zero_add, Nat.reduceAdd] at hK ⊢
                go_simp
                exact hK _ _ ⟨hk.new rfl, hg⟩
              · rintro u done' W' hd hanc hclo ⟨hk, hg⟩
                have e1 := hk.get 1 rfl (hanc 1 (mem_of (by kernel_rfl)))
                refine op_plain (ro := none) rfl (fun c h => by cases h) fun K hK => ?_
                simp only [fillL, List.setIfInBounds_toArray, List.set_cons_zero, List.set_cons_succ, Nat.zero_add, Nat.reduceAdd, e1] at hK ⊢
                go_simp
                exact hK _ _ ⟨hk.new rfl, hg⟩
              · rintro u done' W' hd hanc hclo ⟨hk, hg⟩
                have e0 := hk.get 0 rfl (hanc 0 (mem_of (by kernel_rfl)))
                have e2 := hk.get 2 rfl (hanc 2 (mem_of (by kernel_rfl)))
                refine op_plain (ro := none) rfl (fun c h => by cases h) fun K hK => ?_
                simp only [fillL, List.setIfInBounds_toArray, List.set_cons_zero, List.set_cons_succ, Nat.zero_add, Nat.reduceAdd, e0, e2] at hK ⊢
                go_simp
                exact hK _ _ ⟨hk.new rfl, hg⟩
              · rintro u done' W' hd hanc hclo ⟨hk, hg⟩
                have e3 := hk.get 3 rfl (hanc 3 (mem_of (by kernel_rfl)))
                refine op_plain (ro := none) rfl (fun c h => by cases h) fun K hK => ?_
                simp only [fillL, List.setIfInBounds_toArray, List.set_cons_zero, List.set_cons_succ, Nat.zero_add, Nat.reduceAdd, e3] at hK ⊢
                go_simp
                exact hK _ _ ⟨hk.new rfl, hg⟩
              · intro u done' W' hd hanc hclo hR
                have hk := hR.1
                have e4 := hk.get 4 rfl (hanc 4 (mem_of (by kernel_rfl)))
                with_reducible refine op_meetIn 4 true e4 ?_ ?_ ?_ ?_
                · decide
                · rfl
                · rfl
                refine op_in (ro := none) ?_ ?_
                · intro c h; cases h
                intro K hK
                have hg := hR.2
                have c_m0 := (hg.cell (lt_cell m0)).trans m0
                have c_m1 := (hg.cell (lt_cell m1)).trans m1
                simp only [fillL, List.setIfInBounds_toArray, List.set_cons_zero, List.set_cons_succ, Nat.zero_add, Nat.reduceAdd, e4] at hK ⊢
                go_simp
                exact hK _ _ ⟨hk.new rfl, hg⟩
              · intro u done' W' hd hanc hclo hR
                have hk := hR.1
                have e4 := hk.get 4 rfl (hanc 4 (mem_of (by kernel_rfl)))
                with_reducible refine op_meetIn 4 true e4 ?_ ?_ ?_ ?_
                · decide
                · rfl
                · rfl
                refine op_in (ro := none) ?_ ?_
                · intro c h; cases h
                intro K hK
                have hg := hR.2
                simp only [fillL, List.setIfInBounds_toArray, List.set_cons_zero, List.set_cons_succ, Nat.zero_add, Nat.reduceAdd, e4] at hK ⊢
                go_simp
                exact hK _ _ ⟨hk.new rfl, hg⟩
              · intro u done' W' hd hanc hclo hR
                have hk := hR.1
                have e4 := hk.get 4 rfl (hanc 4 (mem_of (by kernel_rfl)))
                with_reducible refine op_meetIn 4 true e4 ?_ ?_ ?_ ?_
                · decide
                · rfl
                · rfl
                refine op_in (ro := none) ?_ ?_
                · intro c h; cases h
                intro K hK
                have hg := hR.2
                simp only [fillL, List.setIfInBounds_toArray, List.set_cons_zero, List.set_cons_succ, Nat.zero_add, Nat.reduceAdd, e4] at hK ⊢
                go_simp
                exact hK _ _ ⟨hk.new rfl, hg⟩
              · intro u done' W' hd hanc hclo hR
                have hk := hR.1
                have e4 := hk.get 4 rfl (hanc 4 (mem_of (by kernel_rfl)))
                with_reducible refine op_meetIn 4 true e4 ?_ ?_ ?_ ?_
                · decide
                · rfl
                · rfl
                refine op_in (ro := none) ?_ ?_
                · intro c h; cases h
                intro K hK
                have hg := hR.2
                simp only [fillL, List.setIfInBounds_toArray, List.set_cons_zero, List.set_cons_succ, Nat.zero_add, Nat.reduceAdd, e4] at hK ⊢
                go_simp
                exact hK _ _ ⟨hk.new rfl, hg⟩
              · intro u done' W' hd hanc hclo hR
                have hk := hR.1
                have e4 := hk.get 4 rfl (hanc 4 (mem_of (by kernel_rfl)))
                have e7 := hk.get 7 rfl (hanc 7 (mem_of (by kernel_rfl)))
                have e8 := hk.get 8 rfl (hanc 8 (mem_of (by kernel_rfl)))
                with_reducible refine op_meetIn 4 true e4 ?_ ?_ ?_ ?_
                · decide
                · rfl
                · rfl
                refine op_in (ro := none) ?_ ?_
                · intro c h; cases h
                intro K hK
                have hg := hR.2
                simp only [fillL, List.setIfInBounds_toArray, List.set_cons_zero, List.set_cons_succ, Nat.zero_add, Nat.reduceAdd, e4, e7, e8] at hK ⊢
                go_simp
                exact hK _ _ ⟨hk.new rfl, hg⟩
              · intro u done' W' hd hanc hclo hR
                have hk := hR.1
                have e4 := hk.get 4 rfl (hanc 4 (mem_of (by kernel_rfl)))
                have e9 := hk.get 9 rfl (hanc 9 (mem_of (by kernel_rfl)))
                with_reducible refine op_meetIn 4 true e4 ?_ ?_ ?_ ?_
                · decide
                · rfl
                · rfl
                refine op_in (ro := none) ?_ ?_
                · intro c h; cases h
                intro K hK
                have hg := hR.2
                have c_pcell := (hg.cell (lt_cell pcell)).trans pcell
                simp only [fillL, List.setIfInBounds_toArray, List.set_cons_zero, List.set_cons_succ, Nat.zero_add, Nat.reduceAdd, e4, e9] at hK ⊢
                go_simp
                exact hK _ _ ⟨hk.new rfl, hg⟩
              · intro u done' W' hd hanc hclo hR
                have hk := hR.1
                have e4 := hk.get 4 rfl (hanc 4 (mem_of (by kernel_rfl)))
                have e5 := hk.get 5 rfl (hanc 5 (mem_of (by kernel_rfl)))
                have e6 := hk.get 6 rfl (hanc 6 (mem_of (by kernel_rfl)))
                have e10 := hk.get 10 rfl (hanc 10 (mem_of (by kernel_rfl)))
                with_reducible refine op_meetIn 4 true e4 ?_ ?_ ?_ ?_
                · decide
                · rfl
                · rfl
                refine op_in (ro := none) ?_ ?_
                · intro c h; cases h
                intro K hK
                have hg := hR.2
                have HCON := Lib.hid (HDU.out W' hg)
                simp only [fillL, List.setIfInBounds_toArray, List.set_cons_zero, List.set_cons_succ, Nat.zero_add, Nat.reduceAdd, e4, e5, e6, e10] at hK ⊢
                go_simp
                refine HCON.out.mono ?_
                rintro e w7 ⟨rfl, hg6⟩
                exact hK _ _ ⟨hk.new rfl, hg.trans hg6⟩
              · intro u done' W' hd hanc hclo hR
                have hk := hR.1
                have e4 := hk.get 4 rfl (hanc 4 (mem_of (by kernel_rfl)))
                with_reducible refine op_meetIn 4 true e4 ?_ ?_ ?_ ?_
                · decide
                · rfl
                · rfl
                refine op_in (ro := none) ?_ ?_
                · intro c h; cases h
                intro K hK
                have hg := hR.2
                simp only [fillL, List.setIfInBounds_toArray, List.set_cons_zero, List.set_cons_succ, Nat.zero_add, Nat.reduceAdd, e4] at hK ⊢
                go_simp
                exact hK _ _ ⟨hk.new rfl, hg⟩
              · intro u done' W' hd hanc hclo hR
                have hk := hR.1
                have e4 := hk.get 4 rfl (hanc 4 (mem_of (by kernel_rfl)))
                with_reducible refine op_meetIn 4 true e4 ?_ ?_ ?_ ?_
                · decide
                · rfl
                · rfl
                refine op_in (ro := none) ?_ ?_
                · intro c h; cases h
                intro K hK
                have hg := hR.2
                simp only [fillL, List.setIfInBounds_toArray, List.set_cons_zero, List.set_cons_succ, Nat.zero_add, Nat.reduceAdd, e4] at hK ⊢
                go_simp
                exact hK _ _ ⟨hk.new rfl, hg⟩
              · intro u done' W' hd hanc hclo hR
                have hk := hR.1
                have e4 := hk.get 4 rfl (hanc 4 (mem_of (by kernel_rfl)))
                have e12 := hk.get 12 rfl (hanc 12 (mem_of (by kernel_rfl)))
                have e13 := hk.get 13 rfl (hanc 13 (mem_of (by kernel_rfl)))
                with_reducible refine op_meetIn 4 true e4 ?_ ?_ ?_ ?_
                · decide
                · rfl
                · rfl
                refine op_in (ro := none) ?_ ?_
                · intro c h; cases h
                intro K hK
                have hg := hR.2
                simp only [fillL, List.setIfInBounds_toArray, List.set_cons_zero, List.set_cons_succ, Nat.zero_add, Nat.reduceAdd, e4, e12, e13] at hK ⊢
                go_simp
                exact hK _ _ ⟨hk.new rfl, hg⟩
              · intro u done' W' hd hanc hclo hR
                have hk := hR.1
                have e4 := hk.get 4 rfl (hanc 4 (mem_of (by kernel_rfl)))
                have e14 := hk.get 14 rfl (hanc 14 (mem_of (by kernel_rfl)))
                with_reducible refine op_meetIn 4 true e4 ?_ ?_ ?_ ?_
                · decide
                · rfl
                · rfl
                refine op_in (ro := none) ?_ ?_
                · intro c h; cases h
                intro K hK
                have hg := hR.2
                have c_hmc := (hg.cell (lt_cell hmc)).trans hmc
                simp only [fillL, List.setIfInBounds_toArray, List.set_cons_zero, List.set_cons_succ, Nat.zero_add, Nat.reduceAdd, e4, e14] at hK ⊢
                go_simp
                exact hK _ _ ⟨hk.new rfl, hg⟩
              · intro u done' W' hd hanc hclo hR
                have hk := hR.1
                have e4 := hk.get 4 rfl (hanc 4 (mem_of (by kernel_rfl)))
                have e11 := hk.get 11 rfl (hanc 11 (mem_of (by kernel_rfl)))
                have e15 := hk.get 15 rfl (hanc 15 (mem_of (by kernel_rfl)))
                with_reducible refine op_meetIn 4 true e4 ?_ ?_ ?_ ?_
                · decide
                · rfl
                · rfl
                refine op_in (ro := none) ?_ ?_
                · intro c h; cases h
                intro K hK
                have hg := hR.2
                simp only [fillL, List.setIfInBounds_toArray, List.set_cons_zero, List.set_cons_succ, Nat.zero_add, Nat.reduceAdd, e4, e11, e15] at hK ⊢
                go_simp
                try rw [htb]
                exact hK _ _ ⟨hk.new rfl, hg⟩
              · rintro u done' W' hd hanc hclo ⟨hk, hg⟩
                have e4 := hk.get 4 rfl (hanc 4 (mem_of (by kernel_rfl)))
                have e16 := hk.get 16 rfl (hanc 16 (mem_of (by kernel_rfl)))
                refine op_plain (ro := none) rfl (fun c h => by cases h) fun K hK => ?_
                simp only [fillL, List.setIfInBounds_toArray, List.set_cons_zero, List.set_cons_succ, Nat.zero_add, Nat.reduceAdd, e4, e16] at hK ⊢
                go_simp
                exact hK _ _ ⟨hk.new rfl, hg⟩
              · rintro u W' ⟨done', hdn, hk, hg⟩
                have e17 := hk.get 17 rfl (hdn 17 (by decide))
                simp only [fillL, List.setIfInBounds_toArray, List.set_cons_zero, List.set_cons_succ, Nat.zero_add, Nat.reduceAdd, e17]
                clear hk hdn
                have G7 := gr.trans hg
                have pc7 := (hg.cell (lt_cell pcell)).trans pcell
                have hy7 := hyi.gr hg
                have hq7 := hq.gr hg
                have h37 := h3q.gr hg
                have hO7 := hO.gr hg
                clear hg m0 m1 hq h3q hO pcell
                cases tb with
                | true =>
                  have hle : dur f.times cur s ≤ mi := by simpa using HTB.out
                  have HN : Hid ((Lo ++ [s]) ++ intr f.times s (L.drop (j + 1)) (ms.drop (t + 1)) = intr f.times xs L ms) := Lib.hid (by
                    have := HT.out; rw [hdr.out] at this; simpa [intr, hle] using this)
                  clear hle htb
                  go_wp2_with (first | (at_builtin; refine wpList_copy rfl rfl rfl rfl hy7 hn1 (by omega) ?_; intro g8 c8 w8 hq8 h38 hge8 hg8; have G8 := G7.trans hg8; have hO9 := hO7.gr (hg8.allocR (.cells #[.slice (some ⟨g8, 0, none⟩) n c8] 26)); have hy9 := hq8.gr (Gr.alloc w8 (.cells #[.slice (some ⟨g8, 0, none⟩) n c8] 26)); have h39 := h38.gr (Gr.alloc w8 (.cells #[.slice (some ⟨g8, 0, none⟩) n c8] 26)); have G10 := G8.allocR (.cells #[.slice (some ⟨g8, 0, none⟩) n c8] 26); have hg10 := heap_alloc_new w8 (.cells #[.slice (some ⟨g8, 0, none⟩) n c8] 26); clear hO7 hg8 hq7 h37 pc7 hq8 h38) | (at_builtin; refine wpList_push rfl rfl rfl rfl hg10 hO9 G10 hy9 h39 (by omega) ?_; intro v' w11 hO11 G11 HK11))
                  have hq11 := (HK11 _ _ _ hy9 h39).1
                  have h311 := (HK11 _ _ _ hy9 h39).2
                  clear hO9 hy9 h39 G10 hg10 HK11
                  go_wp2_with fail
                  go_roundw
                  case rel => exact ⟨t + 1, j + 1, s, g8, c8, Lo ++ [s], by omega, by omega, by go_num, by go_num, rfl, G11, hq11, h311, hO11, by simp [hlo], HTL, HN⟩
                  case measure => simp [intOf]; omega
                | false =>
                  have hle : ¬ dur f.times cur s ≤ mi := by simpa using HTB.out
                  have HN : Hid ((Lo ++ [cur]) ++ intr f.times cur (L.drop j) (ms.drop (t + 1)) = intr f.times xs L ms) := Lib.hid (by
                    have := HT.out; rw [hdr.out] at this; rw [hdl.out]; simpa [intr, hle] using this)
                  rw [← hdl.out] at HPL
                  clear hle htb
                  have hO9 := (hO7).gr (Gr.alloc W' (.cells #[.slice (some ⟨qg, 0, none⟩) n qc] 26))
                  have hy9 := (hq7).gr (Gr.alloc W' (.cells #[.slice (some ⟨qg, 0, none⟩) n qc] 26))
                  have h39 := (h37).gr (Gr.alloc W' (.cells #[.slice (some ⟨qg, 0, none⟩) n qc] 26))
                  have G10 := (G7).allocR (.cells #[.slice (some ⟨qg, 0, none⟩) n qc] 26)
                  have hg10 := heap_alloc_new W' (.cells #[.slice (some ⟨qg, 0, none⟩) n qc] 26)
                  go_wp2_with (at_builtin; refine wpList_push rfl rfl rfl rfl hg10 hO9 G10 hy9 h39 (by omega) ?_; intro v' w11 hO11 G11 HK11)
                  have hq11 := (HK11 _ _ _ hy9 h39).1
                  have h311 := (HK11 _ _ _ hy9 h39).2
                  clear hO9 hy9 h39 G10 hg10 HK11
                  go_wp2_with fail
                  go_roundw
                  case rel => exact ⟨t + 1, j, cur, qg, qc, Lo ++ [cur], by omega, by omega, by go_num, rfl, rfl, G11, hq11, h311, hO11, by simp [hlo], HPL, HN⟩
                  case measure => simp [intOf]; omega
            · obtain rfl : j = pn := by omega
              have hd0 : Hid (L.drop j = []) := Lib.hid (List.drop_eq_nil_of_le (by rw [HLL.out]; exact Nat.le_refl _))
              have HN : Hid ((Lo ++ [cur]) ++ intr f.times cur (L.drop j) (ms.drop (t + 1)) = intr f.times xs L ms) := Lib.hid (by
                have := HT.out; rw [hdr.out, hd0.out] at this; rw [hd0.out]; simpa [intr] using this)
              go_wp2_with fail
              refine (wpIn_wide (n := 0)).1 ?_
              refine region_inv (F := Fence.wide) (by kernel_rfl) (by rfl) (by decide) (fun _ => trivial)
                (fun done' u W' => Kn [some (.int .i64 j), some (.slice pa j pc), some (.int .i64 j), some (.bool false), some (.bool false), none, none, none, none, none, none, none, none, none, none, none, none, some (.bool false)] done' u ∧ Gr wr W')
                (fun u => ⟨Kn.start _ _, Gr.drew wr⟩) ⟨?_, ?_, ?_, ?_, ?_, ?_, ?_, ?_, ?_, ?_, ?_, ?_, ?_, ?_, ?_, ?_, ?_, ?_, trivial⟩ ?_
              · rintro u done' W' hd hanc hclo ⟨hk, hg⟩
                refine op_plain (ro := none) rfl (fun c h => by cases h) fun K hK => ?_
                simp only [fillL, List.setIfInBounds_toArray, List.set_cons_zero, List.set_cons_succ, Nat.zero_add, Nat.reduceAdd] at hK ⊢
                go_simp
                exact hK _ _ ⟨hk.new rfl, hg⟩
              · rintro u done' W' hd hanc hclo ⟨hk, hg⟩
                refine op_plain (ro := none) rfl (fun c h => by cases h) fun K hK => ?_
                simp only [fillL, List.setIfInBounds_toArray, List.set_cons_zero, List.set_cons_succ, Nat.zero_add, Nat.reduceAdd] at hK ⊢
                go_simp
                exact hK _ _ ⟨hk.new rfl, hg⟩
              · rintro u done' W' hd hanc hclo ⟨hk, hg⟩
                have e1 := hk.get 1 rfl (hanc 1 (mem_of (by kernel_rfl)))
                refine op_plain (ro := none) rfl (fun c h => by cases h) fun K hK => ?_
                simp only [fillL, List.setIfInBounds_toArray, List.set_cons_zero, List.set_cons_succ, Nat.zero_add, Nat.reduceAdd, e1] at hK ⊢
                go_simp
                exact hK _ _ ⟨hk.new rfl, hg⟩
              · rintro u done' W' hd hanc hclo ⟨hk, hg⟩
                have e0 := hk.get 0 rfl (hanc 0 (mem_of (by kernel_rfl)))
                have e2 := hk.get 2 rfl (hanc 2 (mem_of (by kernel_rfl)))
                refine op_plain (ro := none) rfl (fun c h => by cases h) fun K hK => ?_
                simp only [fillL, List.setIfInBounds_toArray, List.set_cons_zero, List.set_cons_succ, Nat.zero_add, Nat.reduceAdd, e0, e2] at hK ⊢
                go_simp
                exact hK _ _ ⟨hk.new rfl, hg⟩
              · rintro u done' W' hd hanc hclo ⟨hk, hg⟩
                have e3 := hk.get 3 rfl (hanc 3 (mem_of (by kernel_rfl)))
                refine op_plain (ro := none) rfl (fun c h => by cases h) fun K hK => ?_
                simp only [fillL, List.setIfInBounds_toArray, List.set_cons_zero, List.set_cons_succ, Nat.zero_add, Nat.reduceAdd, e3] at hK ⊢
                go_simp
                exact hK _ _ ⟨hk.new rfl, hg⟩
              · intro u done' W' hd hanc hclo hR
                have e4 := hR.1.get 4 rfl (hanc 4 (mem_of (by kernel_rfl)))
                with_reducible refine op_skip 4 true e4 rfl ?_ ?_ rfl ?_
                · decide
                · rfl
                · obtain ⟨hk, hg⟩ := hR
                  exact ⟨hk.skip rfl, hg⟩
              · intro u done' W' hd hanc hclo hR
                have e4 := hR.1.get 4 rfl (hanc 4 (mem_of (by kernel_rfl)))
                with_reducible refine op_skip 4 true e4 rfl ?_ ?_ rfl ?_
                · decide
                · rfl
                · obtain ⟨hk, hg⟩ := hR
                  exact ⟨hk.skip rfl, hg⟩
              · intro u done' W' hd hanc hclo hR
                have e4 := hR.1.get 4 rfl (hanc 4 (mem_of (by kernel_rfl)))
                with_reducible refine op_skip 4 true e4 rfl ?_ ?_ rfl ?_
                · decide
                · rfl
                · obtain ⟨hk, hg⟩ := hR
                  exact ⟨hk.skip rfl, hg⟩
              · intro u done' W' hd hanc hclo hR
                have e4 := hR.1.get 4 rfl (hanc 4 (mem_of (by kernel_rfl)))
                with_reducible refine op_skip 4 true e4 rfl ?_ ?_ rfl ?_
                · decide
                · rfl
                · obtain ⟨hk, hg⟩ := hR
                  exact ⟨hk.skip rfl, hg⟩
              · intro u done' W' hd hanc hclo hR
                have e4 := hR.1.get 4 rfl (hanc 4 (mem_of (by kernel_rfl)))
                with_reducible refine op_skip 4 true e4 rfl ?_ ?_ rfl ?_
                · decide
                · rfl
                · obtain ⟨hk, hg⟩ := hR
                  exact ⟨hk.skip rfl, hg⟩
              · intro u done' W' hd hanc hclo hR
                have e4 := hR.1.get 4 rfl (hanc 4 (mem_of (by kernel_rfl)))
                with_reducible refine op_skip 4 true e4 rfl ?_ ?_ rfl ?_
                · decide
                · rfl
                · obtain ⟨hk, hg⟩ := hR
                  exact ⟨hk.skip rfl, hg⟩
              · intro u done' W' hd hanc hclo hR
                have e4 := hR.1.get 4 rfl (hanc 4 (mem_of (by kernel_rfl)))
                with_reducible refine op_skip 4 true e4 rfl ?_ ?_ rfl ?_
                · decide
                · rfl
                · obtain ⟨hk, hg⟩ := hR
                  exact ⟨hk.skip rfl, hg⟩
              · intro u done' W' hd hanc hclo hR
                have e4 := hR.1.get 4 rfl (hanc 4 (mem_of (by kernel_rfl)))
                with_reducible refine op_skip 4 true e4 rfl ?_ ?_ rfl ?_
                · decide
                · rfl
                · obtain ⟨hk, hg⟩ := hR
                  exact ⟨hk.skip rfl, hg⟩
              · intro u done' W' hd hanc hclo hR
                have e4 := hR.1.get 4 rfl (hanc 4 (mem_of (by kernel_rfl)))
                with_reducible refine op_skip 4 true e4 rfl ?_ ?_ rfl ?_
                · decide
                · rfl
                · obtain ⟨hk, hg⟩ := hR
                  exact ⟨hk.skip rfl, hg⟩
              · intro u done' W' hd hanc hclo hR
                have e4 := hR.1.get 4 rfl (hanc 4 (mem_of (by kernel_rfl)))
                with_reducible refine op_skip 4 true e4 rfl ?_ ?_ rfl ?_
                · decide
                · rfl
                · obtain ⟨hk, hg⟩ := hR
                  exact ⟨hk.skip rfl, hg⟩
              · intro u done' W' hd hanc hclo hR
                have e4 := hR.1.get 4 rfl (hanc 4 (mem_of (by kernel_rfl)))
                with_reducible refine op_skip 4 true e4 rfl ?_ ?_ rfl ?_
                · decide
                · rfl
                · obtain ⟨hk, hg⟩ := hR
                  exact ⟨hk.skip rfl, hg⟩
              · intro u done' W' hd hanc hclo hR
                have e4 := hR.1.get 4 rfl (hanc 4 (mem_of (by kernel_rfl)))
                with_reducible refine op_skip 4 true e4 rfl ?_ ?_ rfl ?_
                · decide
                · rfl
                · obtain ⟨hk, hg⟩ := hR
                  exact ⟨hk.skip rfl, hg⟩
              · rintro u done' W' hd hanc hclo ⟨hk, hg⟩
                have e4 := hk.get 4 rfl (hanc 4 (mem_of (by kernel_rfl)))
                refine op_plain (ro := none) rfl (fun c h => by cases h) fun K hK => ?_
                simp only [fillL, List.setIfInBounds_toArray, List.set_cons_zero, List.set_cons_succ, Nat.zero_add, Nat.reduceAdd, e4] at hK ⊢
                go_simp
                exact hK _ _ ⟨hk.new rfl, hg⟩
              · rintro u W' ⟨done', hdn, hk, hg⟩
                have e17 := hk.get 17 rfl (hdn 17 (by decide))
                simp only [fillL, List.setIfInBounds_toArray, List.set_cons_zero, List.set_cons_succ, Nat.zero_add, Nat.reduceAdd, e17]
                clear hk hdn
                have G7 := gr.trans hg
                have hq7 := hq.gr hg
                have h37 := h3q.gr hg
                have hO7 := hO.gr hg
                clear hg m0 m1 hq h3q hO
                have hO9 := (hO7).gr (Gr.alloc W' (.cells #[.slice (some ⟨qg, 0, none⟩) n qc] 26))
                have hy9 := (hq7).gr (Gr.alloc W' (.cells #[.slice (some ⟨qg, 0, none⟩) n qc] 26))
                have h39 := (h37).gr (Gr.alloc W' (.cells #[.slice (some ⟨qg, 0, none⟩) n qc] 26))
                have G10 := (G7).allocR (.cells #[.slice (some ⟨qg, 0, none⟩) n qc] 26)
                have hg10 := heap_alloc_new W' (.cells #[.slice (some ⟨qg, 0, none⟩) n qc] 26)
                go_wp2_with (at_builtin; refine wpList_push rfl rfl rfl rfl hg10 hO9 G10 hy9 h39 (by omega) ?_; intro v' w11 hO11 G11 HK11)
                have hq11 := (HK11 _ _ _ hy9 h39).1
                have h311 := (HK11 _ _ _ hy9 h39).2
                clear hO9 hy9 h39 G10 hg10 HK11
                go_wp2_with fail
                go_roundw
                case rel => exact ⟨t + 1, j, cur, qg, qc, Lo ++ [cur], by omega, by omega, by go_num, rfl, rfl, G11, hq11, h311, hO11, by simp [hlo], HPL, HN⟩
                case measure => simp [intOf]; omega
          · obtain rfl : t = k := by omega
            have HF : Hid (Lo = intV f xs L bu ms) := Lib.hid (by
              have := HT.out; rw [show ms.drop t = [] from List.drop_eq_nil_of_le (by rw [HML.out]; exact Nat.le_refl _)] at this
              rw [HP.out.2, ← this]; cases L.drop j <;> simp [intr])
            go_wp2_with fail
            go_ret2
            rw [← HF.out, HP.out.1]
            exact hO.post (G3.trans gr) (by omega)
  · have heb : ((cpR f xs L bu).2 != 0) = true := by simp [he]
    have HP : Hid (intE f xs L bu ms = (cpR f xs L bu).2 ∧ intV f xs L bu ms = []) := Lib.hid (by
      have : intE f xs L bu ms = (cpR f xs L bu).2 := by unfold intE; rw [if_neg he]
      exact ⟨this, by unfold intV; rw [this, if_neg he]⟩)
    clear he
    go_enter Try.func31, Try.ntmps31
    go_wp2_with fail
    refine HC.out.mono ?_
    rintro e w3 ⟨rfl, g3⟩
    go_wp2_with fail
    go_ret2
    exact ⟨none, 0, 0, by rw [HP.out.1]; rfl, by rw [HP.out.2]; exact RowsAt.nil _, g1.trans g3⟩
end
section
open Go.RowKit

theorem run_take (w : World) (pa : Option Addr) (n c k : Nat) (hk : k ≤ c) : (Instr.slice 22 (.slice pa n c) none (some (.int .i64 k)) none).run Try.prog w = .ok (.slice pa k c) w := by
  have hu := Try.underlying22
  have ha : ∀ a : Addr, a.add 0 = a := fun a => by unfold Addr.add; rfl
  have hm : pa.map (fun a => a.add 0) = pa := by cases pa <;> simp [ha]
  have h1 : (0 : Int) ≤ k ∧ (k : Int) ≤ c := by omega
  obtain ⟨i0, hi, hz0, hz1, hz2⟩ := info_parts Try.info26
  simp [Instr.slice, Instr.sliceBounds, Instr.sliceBound, underlying, hu, sizeOf, hi, hz1, asIntOf, h1, hm, go_sem]
  intro h; omega

/-- append of the first states of a plan to a new list of one state -/
theorem wpList_front {ops : Array Oper} {rest : List Oper} {o : Oper} {a : Act} {w3 W : World} {Q : Exit → Act → World → Prop} (hgd : o.guard = none) {s x : Operand} {sa pa : Option Addr} {n c pn pc g : Nat} {xs : List Int} {L : List (List Int)}
    (ho : o.op = .call { callee := .builtin .append, args := #[s, x], argTypes := #[22, 22] }) (hs : a.eval s = .slice (some ⟨g, 0, none⟩) 1 1) (hx : a.eval x = .slice pa pn pc)
    (hg : W.heap[g]? = some (.cells #[.slice sa n c] 26 (0, 0))) (hge : w3.heap.size ≤ g) (hgr : Gr w3 W) (hi : Ints w3 sa n xs) (hL : RowsAt w3 pa pn L) (h64 : pn ≤ 64)
    (h : ∀ ra rc w6, RowsAt w6 ra (pn + 1) (xs :: L) → Gr w3 w6 → wpList Try.prog ops Q rest (a.put o.dst (.slice ra (pn + 1) rc)) w6) : wpList Try.prog ops Q (o :: rest) a W :=
  wpList_plain hgd fun K hK => cp_append ho hs hx hg hge hgr hi hL h64 (fun ra rc w6 k1 k2 => hK _ _ (h ra rc w6 k1 k2))

set_option maxRecDepth 100000 in
set_option maxHeartbeats 4000000 in
theorem back_any (ta ca a pa : Option Addr) (tn tc cn cc n c pn pc : Nat) (f : Fl) (xs : List Int) (L : List (List Int)) (bu dn : Int) (w : World) (hf : FlAt w ta tn ca cn f) (hx : Ints w a n xs) (hL : RowsAt w pa pn L) (hpc : pn ≤ pc) :
    Calls Try.prog 32 #[.agg #[.slice ta tn tc, .slice ca cn cc], .slice a n c, .slice pa pn pc, .int .i64 bu, .int .i64 dn] w (PlanPost w (backV f xs L bu dn) (backE f xs L bu dn)) := by
  have g1 := Gr.alloc w (.cells #[.slice ta tn tc, .slice ca cn cc] 25)
  have c0 := cell_new (w := w) (t := 25) (cs := #[.slice ta tn tc, .slice ca cn cc]) (j := 0) rfl
  have c1 := cell_new (w := w) (t := 25) (cs := #[.slice ta tn tc, .slice ca cn cc]) (j := 1) rfl
  obtain ⟨w1, hw1⟩ : ∃ w1, w.alloc (.cells #[.slice ta tn tc, .slice ca cn cc] 25) = w1 := ⟨_, rfl⟩
  rw [hw1] at g1 c0 c1
  have HC := Lib.hid (checkPlan_any ta ca a pa tn tc cn cc n c pn pc f xs L bu w1 (hf.gr g1) (hx.gr g1) (hL.gr g1))
  by_cases he : (cpR f xs L bu).2 = 0
  · have heb : ((cpR f xs L bu).2 != 0) = false := by simp [he]
    have HE : Hid (backE f xs L bu dn = (if withinB dn 0 L.length then 0 else 1)) := Lib.hid (by unfold backE; rw [if_pos he])
    have hpl := cpR_pl he
    have HPL := Lib.hid hpl
    have hn1 : 0 < n := by have := hpl.ok.n1; have := hpl.a.len; have := hx.len; omega
    have hn6 : n ≤ 6 := by have := hpl.ok.n6; have := hpl.a.len; have := hx.len; omega
    have hp64 : pn ≤ 64 := by have := hpl.n64; have := hL.len; omega
    have hPN := Lib.hid hL.len
    clear he hpl
    cases hb : withinB dn 0 pn with
    | false =>
      have HP : Hid (backE f xs L bu dn = 1 ∧ backV f xs L bu dn = []) := Lib.hid (by
        have : backE f xs L bu dn = 1 := by rw [HE.out, hL.len, hb]; rfl
        exact ⟨this, by unfold backV; rw [this]; rfl⟩)
      have HWI := Lib.hid (show ∀ W, Calls Try.prog 61 #[.int .i64 dn, .int .i64 0, .int .i64 pn] W fun e w' => e = .returned (.bool false) ∧ W = w' from fun W => hb ▸ within_any dn 0 pn W)
      clear hb
      go_enter Try.func32, Try.ntmps32
      go_wp2_with fail
      refine HC.out.mono ?_
      rintro e w3 ⟨rfl, g3⟩
      go_wp2_with fail
      refine (HWI.out _).mono ?_
      rintro e w' ⟨rfl, rfl⟩
      go_wp2_with fail
      go_ret2
      exact ⟨none, 0, 0, by rw [HP.out.1]; rfl, by rw [HP.out.2]; exact RowsAt.nil _, g1.trans g3⟩
    | true =>
      obtain ⟨d, rfl, hdp⟩ : ∃ d : Nat, dn = d ∧ d ≤ pn := by
        simp [withinB] at hb
        exact ⟨dn.toNat, by omega, by omega⟩
      have HP : Hid (backE f xs L bu d = 0 ∧ backV f xs L bu d = bk xs L d) := Lib.hid (by
        have : backE f xs L bu d = 0 := by rw [HE.out, hL.len, hb]; rfl
        exact ⟨this, by unfold backV; rw [this]; rfl⟩)
      have HWI := Lib.hid (show ∀ W, Calls Try.prog 61 #[.int .i64 d, .int .i64 0, .int .i64 pn] W fun e w' => e = .returned (.bool true) ∧ W = w' from fun W => hb ▸ within_any d 0 pn W)
      clear hb HE
      go_enter Try.func32, Try.ntmps32
      go_wp2_with fail
      refine HC.out.mono ?_
      rintro e w3 ⟨rfl, g3⟩
      have G3 := g1.trans g3
      have hx3 := hx.gr G3
      have hL3 := hL.gr G3
      clear hw1 c0 c1 HC g1 g3
      have hsl := run_take w3 pa pn pc d (by omega)
      have g4 := Gr.alloc w3 (.cells #[.slice a n c] 26)
      have hg4 := heap_alloc_new w3 (.cells #[.slice a n c] 26)
      have hsl4 := run_take (w3.alloc (.cells #[.slice a n c] 26)) pa pn pc d (by omega)
      have hLd : RowsAt w3 pa d (L.take d) := hL3.take hdp
      go_wp2_with fail
      refine (HWI.out _).mono ?_
      rintro e w' ⟨rfl, rfl⟩
      clear HWI
      go_wp2_with (at_builtin; refine wpList_front rfl rfl rfl rfl hg4 (Nat.le_refl _) g4 hx3 hLd (by omega) ?_; intro ra rc w5 hA g5)
      clear hg4 g4 hsl hsl4 hLd
      go_wp2_with fail
      go_loopw [10, 15] (fun o i wr => ∃ (k : Nat) (Lo : List (List Int)), k ≤ d ∧ i = .int .i64 ((k : Int) - 1) ∧ Gr w5 wr ∧ OutR wr w5.heap.size o Lo ∧ Lo.length = d - k ∧ Hid (Lo ++ bk xs L k = bk xs L d)) (fun _ i _ => (intOf i + 1).toNat)
      case atStart => exact ⟨d, [], Nat.le_refl _, rfl, Gr.refl _, OutR.nil _ _, by simp, Lib.hid rfl⟩
      case round =>
        obtain ⟨k, Lo, hk, rfl, gr, hO, hlo, HT⟩ := hrel
        cases k with
        | zero =>
          have hz : (((0 : Nat) : Int) - 1) = -1 := rfl
          rw [hz]
          have HF : Hid (Lo = backV f xs L bu d) := Lib.hid (by rw [HP.out.2, ← HT.out]; simp [bk])
          clear hz
          go_wp2_with fail
          go_ret2
          rw [← HF.out, HP.out.1]
          exact hO.post ((G3.trans g5).trans gr) (by omega)
        | succ m =>
          have hz : (((m + 1 : Nat) : Int) - 1) = (m : Int) := by omega
          rw [hz]
          obtain ⟨pd, qa, qn, qc, rfl, hpb, hpcell, hqi⟩ := (hA.gr gr).at (j := m) (by omega)
          have hqv : ((xs :: L.take d)[m]?.getD []) = pAt xs L m := by
            unfold pAt
            cases m with
            | zero => rfl
            | succ m => simp only [List.getElem?_cons_succ]; rw [List.getElem?_take_of_lt (by omega)]
          rw [hqv] at hqi
          have hqn : qn = n := by
            have := (HPL.out.at (k := m) (by have := hPN.out; omega)).len
            have := HPL.out.a.len; have := hx.len; have := hqi.len; omega
          subst hqn
          have HT2 : Hid ((Lo ++ [pAt xs L m]) ++ bk xs L m = bk xs L d) := Lib.hid (by rw [← HT.out]; simp [bk])
          generalize pAt xs L m = q at *
          obtain ⟨qd, rfl, _, _⟩ := hqi.at hn1
          have HCN := Lib.hid (clone_any (some qd) qn qc q wr hqi hn1 (by omega))
          have hlc := hqi.len
          clear hqv hz
          go_wp2_with fail
          refine HCN.out.mono ?_
          rintro e w9 ⟨g9, gc, rfl, hge9, hgi, hg9, hg3⟩
          rw [hlc] at hgi ⊢
          have G9 := gr.trans hg9
          have hO9 := hO.gr (hg9.allocR (.cells #[.slice (some ⟨g9, 0, none⟩) qn gc] 26))
          have hy9 := hgi.gr (Gr.alloc w9 (.cells #[.slice (some ⟨g9, 0, none⟩) qn gc] 26))
          have h39 := hg3.gr (Gr.alloc w9 (.cells #[.slice (some ⟨g9, 0, none⟩) qn gc] 26))
          have G10 := G9.allocR (.cells #[.slice (some ⟨g9, 0, none⟩) qn gc] 26)
          have hg10 := heap_alloc_new w9 (.cells #[.slice (some ⟨g9, 0, none⟩) qn gc] 26)
          clear HCN hgi hg3 hg9
          go_wp2_with (at_builtin; refine wpList_push rfl rfl rfl rfl hg10 hO9 G10 hy9 h39 (by omega) ?_; intro v' w11 hO11 G11 _)
          clear hO9 hy9 h39 G10 hg10
          go_wp2_with fail
          go_roundw
          case rel => exact ⟨m, Lo ++ [q], by omega, rfl, G11, hO11, by simp only [List.length_append, List.length_singleton, hlo]; omega, HT2⟩
          case measure => simp [intOf] <;> omega
  · have heb : ((cpR f xs L bu).2 != 0) = true := by simp [he]
    have HP : Hid (backE f xs L bu dn = (cpR f xs L bu).2 ∧ backV f xs L bu dn = []) := Lib.hid (by
      have : backE f xs L bu dn = (cpR f xs L bu).2 := by unfold backE; rw [if_neg he]
      exact ⟨this, by unfold backV; rw [this, if_neg he]⟩)
    clear he
    go_enter Try.func32, Try.ntmps32
    go_wp2_with fail
    refine HC.out.mono ?_
    rintro e w3 ⟨rfl, g3⟩
    go_wp2_with fail
    go_ret2
    exact ⟨none, 0, 0, by rw [HP.out.1]; rfl, by rw [HP.out.2]; exact RowsAt.nil _, g1.trans g3⟩

set_option maxRecDepth 100000 in
set_option maxHeartbeats 4000000 in
theorem back2_any (ta ca a pa : Option Addr) (tn tc cn cc n c pn pc : Nat) (f : Fl) (xs : List Int) (L : List (List Int)) (bu dn : Int) (w : World) (hf : FlAt w ta tn ca cn f) (hx : Ints w a n xs) (hL : RowsAt w pa pn L) :
    Calls Try.prog 33 #[.agg #[.slice ta tn tc, .slice ca cn cc], .slice a n c, .slice pa pn pc, .int .i64 bu, .int .i64 dn] w (PlanPost w (backV f xs L bu dn) (backE f xs L bu dn)) := by
  have g1 := Gr.alloc w (.cells #[.slice ta tn tc, .slice ca cn cc] 25)
  have c0 := cell_new (w := w) (t := 25) (cs := #[.slice ta tn tc, .slice ca cn cc]) (j := 0) rfl
  have c1 := cell_new (w := w) (t := 25) (cs := #[.slice ta tn tc, .slice ca cn cc]) (j := 1) rfl
  obtain ⟨w1, hw1⟩ : ∃ w1, w.alloc (.cells #[.slice ta tn tc, .slice ca cn cc] 25) = w1 := ⟨_, rfl⟩
  rw [hw1] at g1 c0 c1
  have HC := Lib.hid (checkPlan2_any ta ca a pa tn tc cn cc n c pn pc f xs L bu w1 (hf.gr g1) (hx.gr g1) (hL.gr g1))
  by_cases he : (cpR f xs L bu).2 = 0
  · have heb : ((cpR f xs L bu).2 != 0) = false := by simp [he]
    have HE : Hid (backE f xs L bu dn = (if withinB dn 0 L.length then 0 else 1)) := Lib.hid (by unfold backE; rw [if_pos he])
    have hpl := cpR_pl he
    have HPL := Lib.hid hpl
    have hn1 : 0 < n := by have := hpl.ok.n1; have := hpl.a.len; have := hx.len; omega
    have hn6 : n ≤ 6 := by have := hpl.ok.n6; have := hpl.a.len; have := hx.len; omega
    have hp64 : pn ≤ 64 := by have := hpl.n64; have := hL.len; omega
    have hPN := Lib.hid hL.len
    clear he hpl
    cases hb : withinB dn 0 pn with
    | false =>
      have HP : Hid (backE f xs L bu dn = 1 ∧ backV f xs L bu dn = []) := Lib.hid (by
        have : backE f xs L bu dn = 1 := by rw [HE.out, hL.len, hb]; rfl
        exact ⟨this, by unfold backV; rw [this]; rfl⟩)
      have HWI := Lib.hid (show ∀ W, Calls Try.prog 63 #[.int .i64 dn, .int .i64 0, .int .i64 pn] W fun e w' => e = .returned (.bool false) ∧ W = w' from fun W => hb ▸ within2_any dn 0 pn W)
      clear hb
      go_enter Try.func33, Try.ntmps33
      go_wp2_with fail
      refine HC.out.mono ?_
      rintro e w3 ⟨rfl, g3⟩
      go_wp2_with fail
      refine (HWI.out _).mono ?_
      rintro e w' ⟨rfl, rfl⟩
      go_wp2_with fail
      go_ret2
      exact ⟨none, 0, 0, by rw [HP.out.1]; rfl, by rw [HP.out.2]; exact RowsAt.nil _, g1.trans g3⟩
    | true =>
      obtain ⟨d, rfl, hdp⟩ : ∃ d : Nat, dn = d ∧ d ≤ pn := by
        simp [withinB] at hb
        exact ⟨dn.toNat, by omega, by omega⟩
      have HP : Hid (backE f xs L bu d = 0 ∧ backV f xs L bu d = bk xs L d) := Lib.hid (by
        have : backE f xs L bu d = 0 := by rw [HE.out, hL.len, hb]; rfl
        exact ⟨this, by unfold backV; rw [this]; rfl⟩)
      have HWI := Lib.hid (show ∀ W, Calls Try.prog 63 #[.int .i64 d, .int .i64 0, .int .i64 pn] W fun e w' => e = .returned (.bool true) ∧ W = w' from fun W => hb ▸ within2_any d 0 pn W)
      clear hb HE
      go_enter Try.func33, Try.ntmps33
      go_wp2_with fail
      refine HC.out.mono ?_
      rintro e w3 ⟨rfl, g3⟩
      have G3 := g1.trans g3
      have hx3 := hx.gr G3
      have hL3 := hL.gr G3
      clear hw1 c0 c1 HC g1 g3
      go_wp2_with fail
      refine (HWI.out _).mono ?_
      rintro e w' ⟨rfl, rfl⟩
      clear HWI
      go_wp2_with fail
      go_loopw [14, 15] (fun o i wr => ∃ (k : Nat) (Lo : List (List Int)), k ≤ d ∧ (k = 0 → d = 0) ∧ i = .int .i64 ((k : Int) - 2) ∧ Gr w3 wr ∧ OutR wr w3.heap.size o Lo ∧ Lo.length = d - k ∧ Hid (Lo ++ bk xs L k = bk xs L d)) (fun _ i _ => (intOf i + 1).toNat)
      case atStart => exact ⟨d, [], Nat.le_refl _, fun h => h, rfl, Gr.refl _, OutR.nil _ _, by simp, Lib.hid rfl⟩
      case round =>
        obtain ⟨k, Lo, hk, hk0, rfl, gr, hO, hlo, HT⟩ := hrel
        match k with
        | 0 =>
          obtain rfl : d = 0 := hk0 rfl
          have hz : (((0 : Nat) : Int) - 2) = -2 := rfl
          rw [hz]
          have HP0 : Hid (backE f xs L bu 0 = 0 ∧ backV f xs L bu 0 = bk xs L 0) := Lib.hid (by have := HP.out; simpa using this)
          have HF : Hid (Lo = backV f xs L bu 0) := Lib.hid (by rw [HP0.out.2, ← HT.out]; simp [bk])
          have hd0 : ¬ (0 : Int) < ((0 : Nat) : Int) := by omega
          clear hz hk0
          go_wp2_with fail
          go_ret2
          rw [← HF.out, HP0.out.1]
          exact hO.post (G3.trans gr) (by omega)
        | 1 =>
          have hz : (((1 : Nat) : Int) - 2) = -1 := rfl
          rw [hz]
          have hd0 : (0 : Int) < (d : Int) := by omega
          have HF : Hid (Lo ++ [xs] = backV f xs L bu d) := Lib.hid (by rw [HP.out.2, ← HT.out]; simp [bk, pAt])
          have hxr := hx3.gr gr
          clear hz hk0
          go_wp2_with (first | (at_builtin; refine wpList_copy rfl rfl rfl rfl hxr hn1 (by omega) ?_; intro g8 gc w9 hgi hg3 hge9 hg9; have G9 := gr.trans hg9; have hO9 := hO.gr (hg9.allocR (.cells #[.slice (some ⟨g8, 0, none⟩) n gc] 26)); have hy9 := hgi.gr (Gr.alloc w9 (.cells #[.slice (some ⟨g8, 0, none⟩) n gc] 26)); have h39 := hg3.gr (Gr.alloc w9 (.cells #[.slice (some ⟨g8, 0, none⟩) n gc] 26)); have G10 := G9.allocR (.cells #[.slice (some ⟨g8, 0, none⟩) n gc] 26); have hg10 := heap_alloc_new w9 (.cells #[.slice (some ⟨g8, 0, none⟩) n gc] 26); clear hgi hg3 hg9) | (at_builtin; refine wpList_push rfl rfl rfl rfl hg10 hO9 G10 hy9 h39 (by omega) ?_; intro v' w11 hO11 G11 _))
          clear hO9 hy9 h39 G10 hg10
          go_wp2_with fail
          go_ret2
          rw [← HF.out, HP.out.1]
          exact hO11.post (G3.trans G11) (by simp; omega)
        | m + 2 =>
          have hz : (((m + 2 : Nat) : Int) - 2) = (m : Int) := by omega
          rw [hz]
          obtain ⟨pd, qa, qn, qc, rfl, hpb, hpcell, hqi⟩ := (hL3.gr gr).at (j := m) (by omega)
          have hqv : (L[m]?.getD []) = pAt xs L (m + 1) := by simp [pAt]
          rw [hqv] at hqi
          have hqn : qn = n := by
            have := (HPL.out.at (k := m + 1) (by have := hPN.out; omega)).len
            have := HPL.out.a.len; have := hx.len; have := hqi.len; omega
          subst hqn
          have HT2 : Hid ((Lo ++ [pAt xs L (m + 1)]) ++ bk xs L (m + 1) = bk xs L d) := Lib.hid (by rw [← HT.out]; simp [bk])
          generalize pAt xs L (m + 1) = q at *
          have hm1 : (((m + 1 : Nat) : Int) - 2) = (m : Int) - 1 := by omega
          have HM1 := Lib.hid hm1
          clear hqv hz hk0 hm1
          go_wp2_with (first | (at_builtin; refine wpList_copy rfl rfl rfl rfl hqi hn1 (by omega) ?_; intro g8 gc w9 hgi hg3 hge9 hg9; have G9 := gr.trans hg9; have hO9 := hO.gr (hg9.allocR (.cells #[.slice (some ⟨g8, 0, none⟩) qn gc] 26)); have hy9 := hgi.gr (Gr.alloc w9 (.cells #[.slice (some ⟨g8, 0, none⟩) qn gc] 26)); have h39 := hg3.gr (Gr.alloc w9 (.cells #[.slice (some ⟨g8, 0, none⟩) qn gc] 26)); have G10 := G9.allocR (.cells #[.slice (some ⟨g8, 0, none⟩) qn gc] 26); have hg10 := heap_alloc_new w9 (.cells #[.slice (some ⟨g8, 0, none⟩) qn gc] 26); clear hgi hg3 hg9) | (at_builtin; refine wpList_push rfl rfl rfl rfl hg10 hO9 G10 hy9 h39 (by omega) ?_; intro v' w11 hO11 G11 _))
          clear hO9 hy9 h39 G10 hg10
          go_wp2_with fail
          go_roundw
          case rel => exact ⟨m + 1, Lo ++ [q], by omega, fun h => by omega, by rw [HM1.out], G11, hO11, by simp only [List.length_append, List.length_singleton, hlo]; omega, HT2⟩
          case measure => simp [intOf] <;> omega
  · have heb : ((cpR f xs L bu).2 != 0) = true := by simp [he]
    have HP : Hid (backE f xs L bu dn = (cpR f xs L bu).2 ∧ backV f xs L bu dn = []) := Lib.hid (by
      have : backE f xs L bu dn = (cpR f xs L bu).2 := by unfold backE; rw [if_neg he]
      exact ⟨this, by unfold backV; rw [this, if_neg he]⟩)
    clear he
    go_enter Try.func33, Try.ntmps33
    go_wp2_with fail
    refine HC.out.mono ?_
    rintro e w3 ⟨rfl, g3⟩
    go_wp2_with fail
    go_ret2
    exact ⟨none, 0, 0, by rw [HP.out.1]; rfl, by rw [HP.out.2]; exact RowsAt.nil _, g1.trans g3⟩
end
section
open Go.RowKit

set_option maxRecDepth 100000 in
set_option maxHeartbeats 4000000 in
theorem checks_any (ta ca a pa ma : Option Addr) (tn tc cn cc n c pn pc mn mc : Nat) (f : Fl) (xs ms : List Int) (Q : List (List Int)) (bu dn : Int) (w : World) (hf : FlAt w ta tn ca cn f) (hx : Ints w a n xs) (hL : RowsAt w pa pn Q) (hpc : pn ≤ pc) (hm : Ints w ma mn ms) :
    Calls Try.prog 7 #[.agg #[.slice ta tn tc, .slice ca cn cc], .agg #[.slice a n c, .slice pa pn pc, .int .i64 bu, .int .i64 dn, .slice ma mn mc]] w fun e w' => e = .returned (.bool true) ∧ Gr w w' := by
  have g := (Gr.alloc w (.cells #[.slice ta tn tc, .slice ca cn cc] 25)).allocR (.cells #[.slice a n c, .slice pa pn pc, .int .i64 bu, .int .i64 dn, .slice ma mn mc] 41)
  have hC : RCells ((w.alloc (.cells #[.slice ta tn tc, .slice ca cn cc] 25)).alloc (.cells #[.slice a n c, .slice pa pn pc, .int .i64 bu, .int .i64 dn, .slice ma mn mc] 41)) [(⟨w.heap.size, 0, none⟩, .slice ta tn tc), (⟨w.heap.size, 1, none⟩, .slice ca cn cc), (⟨w.heap.size + 1, 0, none⟩, .slice a n c), (⟨w.heap.size + 1, 1, none⟩, .slice pa pn pc), (⟨w.heap.size + 1, 2, none⟩, .int .i64 bu), (⟨w.heap.size + 1, 3, none⟩, .int .i64 dn), (⟨w.heap.size + 1, 4, none⟩, .slice ma mn mc)] := ((RCells.nil w).box (b := w.heap.size) #[.slice ta tn tc, .slice ca cn cc] 25 rfl).box (b := w.heap.size + 1) #[.slice a n c, .slice pa pn pc, .int .i64 bu, .int .i64 dn, .slice ma mn mc] 41 (by simp)
  obtain ⟨w2, hw2⟩ : ∃ w2, (w.alloc (.cells #[.slice ta tn tc, .slice ca cn cc] 25)).alloc (.cells #[.slice a n c, .slice pa pn pc, .int .i64 bu, .int .i64 dn, .slice ma mn mc] 41) = w2 := ⟨_, rfl⟩
  rw [hw2] at g hC
  have G := g
  replace hf := hf.gr g
  replace hx := hx.gr g
  replace hL := hL.gr g
  replace hm := hm.gr g
  clear g
  have c0 : w2.cell? ⟨w.heap.size, 0, none⟩ = some (.slice ta tn tc) := hC.at 0 rfl
  have c1 : w2.cell? ⟨w.heap.size, 1, none⟩ = some (.slice ca cn cc) := hC.at 1 rfl
  have c2 : w2.cell? ⟨w.heap.size + 1, 0, none⟩ = some (.slice a n c) := hC.at 2 rfl
  have c3 : w2.cell? ⟨w.heap.size + 1, 1, none⟩ = some (.slice pa pn pc) := hC.at 3 rfl
  have c4 : w2.cell? ⟨w.heap.size + 1, 2, none⟩ = some (.int .i64 bu) := hC.at 4 rfl
  have c5 : w2.cell? ⟨w.heap.size + 1, 3, none⟩ = some (.int .i64 dn) := hC.at 5 rfl
  have c6 : w2.cell? ⟨w.heap.size + 1, 4, none⟩ = some (.slice ma mn mc) := hC.at 6 rfl
  go_enter Try.func7, Try.ntmps7
  have HC := Lib.hid (checkPlan_any ta ca a pa tn tc cn cc n c pn pc f xs Q bu w2 hf hx hL)
  go_wp2_with fail
  refine HC.out.mono ?_
  rintro e w3 ⟨rfl, g⟩
  clear HC
  clear hw2
  replace G := G.trans g
  replace hC := hC.gr g
  replace hf := hf.gr g
  replace hx := hx.gr g
  replace hL := hL.gr g
  replace hm := hm.gr g
  clear g
  replace c0 : w3.cell? ⟨w.heap.size, 0, none⟩ = some (.slice ta tn tc) := hC.at 0 rfl
  replace c1 : w3.cell? ⟨w.heap.size, 1, none⟩ = some (.slice ca cn cc) := hC.at 1 rfl
  replace c2 : w3.cell? ⟨w.heap.size + 1, 0, none⟩ = some (.slice a n c) := hC.at 2 rfl
  replace c3 : w3.cell? ⟨w.heap.size + 1, 1, none⟩ = some (.slice pa pn pc) := hC.at 3 rfl
  replace c4 : w3.cell? ⟨w.heap.size + 1, 2, none⟩ = some (.int .i64 bu) := hC.at 4 rfl
  replace c5 : w3.cell? ⟨w.heap.size + 1, 3, none⟩ = some (.int .i64 dn) := hC.at 5 rfl
  replace c6 : w3.cell? ⟨w.heap.size + 1, 4, none⟩ = some (.slice ma mn mc) := hC.at 6 rfl
  have HC := Lib.hid (checkPlan2_any ta ca a pa tn tc cn cc n c pn pc f xs Q bu w3 hf hx hL)
  go_wp2_with fail
  refine HC.out.mono ?_
  rintro e w4 ⟨rfl, g⟩
  clear HC
  replace G := G.trans g
  replace hC := hC.gr g
  replace hf := hf.gr g
  replace hx := hx.gr g
  replace hL := hL.gr g
  replace hm := hm.gr g
  clear g
  replace c0 : w4.cell? ⟨w.heap.size, 0, none⟩ = some (.slice ta tn tc) := hC.at 0 rfl
  replace c1 : w4.cell? ⟨w.heap.size, 1, none⟩ = some (.slice ca cn cc) := hC.at 1 rfl
  replace c2 : w4.cell? ⟨w.heap.size + 1, 0, none⟩ = some (.slice a n c) := hC.at 2 rfl
  replace c3 : w4.cell? ⟨w.heap.size + 1, 1, none⟩ = some (.slice pa pn pc) := hC.at 3 rfl
  replace c4 : w4.cell? ⟨w.heap.size + 1, 2, none⟩ = some (.int .i64 bu) := hC.at 4 rfl
  replace c5 : w4.cell? ⟨w.heap.size + 1, 3, none⟩ = some (.int .i64 dn) := hC.at 5 rfl
  replace c6 : w4.cell? ⟨w.heap.size + 1, 4, none⟩ = some (.slice ma mn mc) := hC.at 6 rfl
  have HC := Lib.hid (interrupt_any ta ca a pa ma tn tc cn cc n c pn pc mn mc f xs ms Q bu w4 hf hx hL hpc hm)
  go_wp2_with fail
  refine HC.out.mono ?_
  rintro e w6 ⟨ra5, rn5, rc5, rfl, hR5, g⟩
  clear HC
  replace G := G.trans g
  replace hC := hC.gr g
  replace hf := hf.gr g
  replace hx := hx.gr g
  replace hL := hL.gr g
  replace hm := hm.gr g
  clear g
  replace c0 : w6.cell? ⟨w.heap.size, 0, none⟩ = some (.slice ta tn tc) := hC.at 0 rfl
  replace c1 : w6.cell? ⟨w.heap.size, 1, none⟩ = some (.slice ca cn cc) := hC.at 1 rfl
  replace c2 : w6.cell? ⟨w.heap.size + 1, 0, none⟩ = some (.slice a n c) := hC.at 2 rfl
  replace c3 : w6.cell? ⟨w.heap.size + 1, 1, none⟩ = some (.slice pa pn pc) := hC.at 3 rfl
  replace c4 : w6.cell? ⟨w.heap.size + 1, 2, none⟩ = some (.int .i64 bu) := hC.at 4 rfl
  replace c5 : w6.cell? ⟨w.heap.size + 1, 3, none⟩ = some (.int .i64 dn) := hC.at 5 rfl
  replace c6 : w6.cell? ⟨w.heap.size + 1, 4, none⟩ = some (.slice ma mn mc) := hC.at 6 rfl
  have HC := Lib.hid (interrupt2_any ta ca a pa ma tn tc cn cc n c pn pc mn mc f xs ms Q bu w6 hf hx hL hm)
  go_wp2_with fail
  refine HC.out.mono ?_
  rintro e w8 ⟨ra7, rn7, rc7, rfl, hR7, g⟩
  clear HC
  replace G := G.trans g
  replace hC := hC.gr g
  replace hf := hf.gr g
  replace hx := hx.gr g
  replace hL := hL.gr g
  replace hm := hm.gr g
  replace hR5 := hR5.gr g
  clear g
  replace c0 : w8.cell? ⟨w.heap.size, 0, none⟩ = some (.slice ta tn tc) := hC.at 0 rfl
  replace c1 : w8.cell? ⟨w.heap.size, 1, none⟩ = some (.slice ca cn cc) := hC.at 1 rfl
  replace c2 : w8.cell? ⟨w.heap.size + 1, 0, none⟩ = some (.slice a n c) := hC.at 2 rfl
  replace c3 : w8.cell? ⟨w.heap.size + 1, 1, none⟩ = some (.slice pa pn pc) := hC.at 3 rfl
  replace c4 : w8.cell? ⟨w.heap.size + 1, 2, none⟩ = some (.int .i64 bu) := hC.at 4 rfl
  replace c5 : w8.cell? ⟨w.heap.size + 1, 3, none⟩ = some (.int .i64 dn) := hC.at 5 rfl
  replace c6 : w8.cell? ⟨w.heap.size + 1, 4, none⟩ = some (.slice ma mn mc) := hC.at 6 rfl
  have HC := Lib.hid (by have hq := sameStates_any ra5 ra7 rn5 rc5 rn7 rc7 (intV f xs Q bu ms) (intV f xs Q bu ms) w8 hR5 hR7; rw [decide_eq_true rfl] at hq; exact hq)
  go_wp2_with fail
  refine HC.out.mono ?_
  rintro e w9 ⟨rfl, g⟩
  clear HC
  replace G := G.trans g
  replace hC := hC.gr g
  replace hf := hf.gr g
  replace hx := hx.gr g
  replace hL := hL.gr g
  replace hm := hm.gr g
  replace hR5 := hR5.gr g
  replace hR7 := hR7.gr g
  clear g
  replace c0 : w9.cell? ⟨w.heap.size, 0, none⟩ = some (.slice ta tn tc) := hC.at 0 rfl
  replace c1 : w9.cell? ⟨w.heap.size, 1, none⟩ = some (.slice ca cn cc) := hC.at 1 rfl
  replace c2 : w9.cell? ⟨w.heap.size + 1, 0, none⟩ = some (.slice a n c) := hC.at 2 rfl
  replace c3 : w9.cell? ⟨w.heap.size + 1, 1, none⟩ = some (.slice pa pn pc) := hC.at 3 rfl
  replace c4 : w9.cell? ⟨w.heap.size + 1, 2, none⟩ = some (.int .i64 bu) := hC.at 4 rfl
  replace c5 : w9.cell? ⟨w.heap.size + 1, 3, none⟩ = some (.int .i64 dn) := hC.at 5 rfl
  replace c6 : w9.cell? ⟨w.heap.size + 1, 4, none⟩ = some (.slice ma mn mc) := hC.at 6 rfl
  have HC := Lib.hid (back_any ta ca a pa tn tc cn cc n c pn pc f xs Q bu dn w9 hf hx hL hpc)
  go_wp2_with fail
  refine HC.out.mono ?_
  rintro e w11 ⟨ra10, rn10, rc10, rfl, hR10, g⟩
  clear HC
  replace G := G.trans g
  replace hC := hC.gr g
  replace hf := hf.gr g
  replace hx := hx.gr g
  replace hL := hL.gr g
  replace hm := hm.gr g
  replace hR5 := hR5.gr g
  replace hR7 := hR7.gr g
  clear g
  replace c0 : w11.cell? ⟨w.heap.size, 0, none⟩ = some (.slice ta tn tc) := hC.at 0 rfl
  replace c1 : w11.cell? ⟨w.heap.size, 1, none⟩ = some (.slice ca cn cc) := hC.at 1 rfl
  replace c2 : w11.cell? ⟨w.heap.size + 1, 0, none⟩ = some (.slice a n c) := hC.at 2 rfl
  replace c3 : w11.cell? ⟨w.heap.size + 1, 1, none⟩ = some (.slice pa pn pc) := hC.at 3 rfl
  replace c4 : w11.cell? ⟨w.heap.size + 1, 2, none⟩ = some (.int .i64 bu) := hC.at 4 rfl
  replace c5 : w11.cell? ⟨w.heap.size + 1, 3, none⟩ = some (.int .i64 dn) := hC.at 5 rfl
  replace c6 : w11.cell? ⟨w.heap.size + 1, 4, none⟩ = some (.slice ma mn mc) := hC.at 6 rfl
  have HC := Lib.hid (back2_any ta ca a pa tn tc cn cc n c pn pc f xs Q bu dn w11 hf hx hL)
  go_wp2_with fail
  refine HC.out.mono ?_
  rintro e w13 ⟨ra12, rn12, rc12, rfl, hR12, g⟩
  clear HC
  replace G := G.trans g
  replace hC := hC.gr g
  replace hf := hf.gr g
  replace hx := hx.gr g
  replace hL := hL.gr g
  replace hm := hm.gr g
  replace hR5 := hR5.gr g
  replace hR7 := hR7.gr g
  replace hR10 := hR10.gr g
  clear g
  replace c0 : w13.cell? ⟨w.heap.size, 0, none⟩ = some (.slice ta tn tc) := hC.at 0 rfl
  replace c1 : w13.cell? ⟨w.heap.size, 1, none⟩ = some (.slice ca cn cc) := hC.at 1 rfl
  replace c2 : w13.cell? ⟨w.heap.size + 1, 0, none⟩ = some (.slice a n c) := hC.at 2 rfl
  replace c3 : w13.cell? ⟨w.heap.size + 1, 1, none⟩ = some (.slice pa pn pc) := hC.at 3 rfl
  replace c4 : w13.cell? ⟨w.heap.size + 1, 2, none⟩ = some (.int .i64 bu) := hC.at 4 rfl
  replace c5 : w13.cell? ⟨w.heap.size + 1, 3, none⟩ = some (.int .i64 dn) := hC.at 5 rfl
  replace c6 : w13.cell? ⟨w.heap.size + 1, 4, none⟩ = some (.slice ma mn mc) := hC.at 6 rfl
  have HC := Lib.hid (by have hq := sameStates_any ra10 ra12 rn10 rc10 rn12 rc12 (backV f xs Q bu dn) (backV f xs Q bu dn) w13 hR10 hR12; rw [decide_eq_true rfl] at hq; exact hq)
  go_wp2_with fail
  refine HC.out.mono ?_
  rintro e w14 ⟨rfl, g⟩
  clear HC
  replace G := G.trans g
  replace hC := hC.gr g
  replace hf := hf.gr g
  replace hx := hx.gr g
  replace hL := hL.gr g
  replace hm := hm.gr g
  replace hR5 := hR5.gr g
  replace hR7 := hR7.gr g
  replace hR10 := hR10.gr g
  replace hR12 := hR12.gr g
  clear g
  replace c0 : w14.cell? ⟨w.heap.size, 0, none⟩ = some (.slice ta tn tc) := hC.at 0 rfl
  replace c1 : w14.cell? ⟨w.heap.size, 1, none⟩ = some (.slice ca cn cc) := hC.at 1 rfl
  replace c2 : w14.cell? ⟨w.heap.size + 1, 0, none⟩ = some (.slice a n c) := hC.at 2 rfl
  replace c3 : w14.cell? ⟨w.heap.size + 1, 1, none⟩ = some (.slice pa pn pc) := hC.at 3 rfl
  replace c4 : w14.cell? ⟨w.heap.size + 1, 2, none⟩ = some (.int .i64 bu) := hC.at 4 rfl
  replace c5 : w14.cell? ⟨w.heap.size + 1, 3, none⟩ = some (.int .i64 dn) := hC.at 5 rfl
  replace c6 : w14.cell? ⟨w.heap.size + 1, 4, none⟩ = some (.slice ma mn mc) := hC.at 6 rfl
  have HC := Lib.hid (look_any w14)
  go_wp2_with fail
  refine HC.out.mono ?_
  rintro e w15 ⟨rfl, g⟩
  clear HC
  replace G := G.trans g
  replace hC := hC.gr g
  replace hf := hf.gr g
  replace hx := hx.gr g
  replace hL := hL.gr g
  replace hm := hm.gr g
  replace hR5 := hR5.gr g
  replace hR7 := hR7.gr g
  replace hR10 := hR10.gr g
  replace hR12 := hR12.gr g
  clear g
  replace c0 : w15.cell? ⟨w.heap.size, 0, none⟩ = some (.slice ta tn tc) := hC.at 0 rfl
  replace c1 : w15.cell? ⟨w.heap.size, 1, none⟩ = some (.slice ca cn cc) := hC.at 1 rfl
  replace c2 : w15.cell? ⟨w.heap.size + 1, 0, none⟩ = some (.slice a n c) := hC.at 2 rfl
  replace c3 : w15.cell? ⟨w.heap.size + 1, 1, none⟩ = some (.slice pa pn pc) := hC.at 3 rfl
  replace c4 : w15.cell? ⟨w.heap.size + 1, 2, none⟩ = some (.int .i64 bu) := hC.at 4 rfl
  replace c5 : w15.cell? ⟨w.heap.size + 1, 3, none⟩ = some (.int .i64 dn) := hC.at 5 rfl
  replace c6 : w15.cell? ⟨w.heap.size + 1, 4, none⟩ = some (.slice ma mn mc) := hC.at 6 rfl
  go_wp2_with fail
  go_ret
  exact ⟨rfl, G⟩
end
end Go.Proofs.Ytlilojpnhmfnaaa
