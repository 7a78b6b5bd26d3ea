/- Contract: UpdateShortest returns true. -/
import Derived.Test.YtlilojpnhmfnaaaLook
import Derived.Test.YtlilojpnhmfnaaaLawT
import Derived.Deep.DeepCutAuto
namespace Go.Proofs.Ytlilojpnhmfnaaa
open Go.RowKit

/-- the boxes of a law: a fleet, a trip and a journey -/
structure JB (w w2 : World) (va vb vc vd v1 v2 : Value) : Prop where
  gr : Gr w w2
  c0 : w2.cell? ⟨w.heap.size, 0, none⟩ = some va
  c1 : w2.cell? ⟨w.heap.size, 1, none⟩ = some vb
  d0 : w2.cell? ⟨w.heap.size + 1, 0, none⟩ = some vc
  d1 : w2.cell? ⟨w.heap.size + 1, 1, none⟩ = some vd
  j1 : w2.cell? ⟨w.heap.size + 1 + 1, 1, none⟩ = some v1
  j2 : w2.cell? ⟨w.heap.size + 1 + 1, 2, none⟩ = some v2
theorem jB (w : World) (va vb vc vd v0 v1 v2 v3 v4 : Value) : JB w (((w.alloc (.cells #[va, vb] 25)).alloc (.cells #[vc, vd] 28)).alloc (.cells #[v0, v1, v2, v3, v4] 41)) va vb vc vd v1 v2 := by
  have s1 : (w.alloc (.cells #[va, vb] 25)).heap.size = w.heap.size + 1 := by simp
  have s2 : ((w.alloc (.cells #[va, vb] 25)).alloc (.cells #[vc, vd] 28)).heap.size = w.heap.size + 1 + 1 := by simp
  have g := Gr.alloc (w.alloc (.cells #[va, vb] 25)) (.cells #[vc, vd] 28)
  have g2 := Gr.alloc ((w.alloc (.cells #[va, vb] 25)).alloc (.cells #[vc, vd] 28)) (.cells #[v0, v1, v2, v3, v4] 41)
  refine ⟨((Gr.alloc _ _).allocR _).allocR _, (g2.cell (by simp; omega)).trans ((g.cell (by simp)).trans (cell_new rfl)), (g2.cell (by simp; omega)).trans ((g.cell (by simp)).trans (cell_new rfl)), (g2.cell (by simp)).trans ?_, (g2.cell (by simp)).trans ?_, ?_, ?_⟩
  · rw [← s1]; exact cell_new rfl
  · rw [← s1]; exact cell_new rfl
  · rw [← s2]; exact cell_new rfl
  · rw [← s2]; exact cell_new rfl
theorem JB.then {w w2 w' : World} {va vb vc vd v1 v2 : Value} (h : JB w w2 va vb vc vd v1 v2) (g : Gr w2 w') : JB w w' va vb vc vd v1 v2 :=
  ⟨h.gr.trans g, (g.cell (lt_cell h.c0)).trans h.c0, (g.cell (lt_cell h.c1)).trans h.c1, (g.cell (lt_cell h.d0)).trans h.d0, (g.cell (lt_cell h.d1)).trans h.d1, (g.cell (lt_cell h.j1)).trans h.j1, (g.cell (lt_cell h.j2)).trans h.j2⟩

set_option maxRecDepth 100000 in
set_option maxHeartbeats 4000000 in
theorem short_any (ta ca a b pa : Option Addr) (tn tc cn cc n c m d pn pc : Nat) (f : Fl) (xs ys : List Int) (Q : List (List Int)) (bu : Int) (v0 v3 v4 : Value) (w : World) (hf : FlAt w ta tn ca cn f) (hx : Ints w a n xs) (hy : Ints w b m ys) (hQ : RowsAt w pa pn Q) :
    Calls Try.prog 5 #[.agg #[.slice ta tn tc, .slice ca cn cc], .agg #[.slice a n c, .slice b m d], .agg #[v0, .slice pa pn pc, .int .i64 bu, v3, v4]] w fun e w' => e = .returned (.bool true) ∧ Gr w w' := by
  have hB := jB w (.slice ta tn tc) (.slice ca cn cc) (.slice a n c) (.slice b m d) v0 (.slice pa pn pc) (.int .i64 bu) v3 v4
  obtain ⟨w2, hw2⟩ : ∃ w2, ((w.alloc (.cells #[.slice ta tn tc, .slice ca cn cc] 25)).alloc (.cells #[.slice a n c, .slice b m d] 28)).alloc (.cells #[v0, .slice pa pn pc, .int .i64 bu, v3, v4] 41) = w2 := ⟨_, rfl⟩
  rw [hw2] at hB
  have c0 := hB.c0
  have c1 := hB.c1
  have HL := Lib.hid (large_any ta ca tn tc cn cc f w2 (hf.gr hB.gr))
  have HLOOK := Lib.hid look_any
  have hpl := hQ.lt
  go_enter Try.func5, Try.ntmps5
  go_wp2_with fail
  refine HL.out.mono ?_
  rintro e w3 ⟨rfl, g3⟩
  have hB3 := hB.then g3
  clear hw2 hB c0 c1 HL g3
  cases hlg : largeB f.times with
  | true =>
    go_wp2_with fail
    refine (HLOOK.out _).mono ?_
    rintro e w4 ⟨rfl, g4⟩
    go_wp2_with fail
    go_ret
    exact ⟨rfl, hB3.gr.trans g4⟩
  | false =>
    have c0 := hB3.c0
    have c1 := hB3.c1
    have d0 := hB3.d0
    have d1 := hB3.d1
    have j2 := hB3.j2
    have HPL := Lib.hid (plan_any ta ca a b tn tc cn cc n c m d f xs ys bu w3 (hf.gr hB3.gr) (hx.gr hB3.gr) (hy.gr hB3.gr))
    go_wp2_with fail
    refine HPL.out.mono ?_
    rintro e w4 ⟨ra, rn, rc, rfl, hR4, g4⟩
    have hB4 := hB3.then g4
    clear c0 c1 d0 d1 j2 HPL hB3 g4
    have c0 := hB4.c0
    have c1 := hB4.c1
    have d0 := hB4.d0
    have j1 := hB4.j1
    have j2 := hB4.j2
    have HCP := Lib.hid (checkPlan_any ta ca a pa tn tc cn cc n c pn pc f xs Q bu w4 (hf.gr hB4.gr) (hx.gr hB4.gr) (hQ.gr hB4.gr))
    have HR4 := Lib.hid hR4
    clear hR4
    go_wp2_with fail
    refine HCP.out.mono ?_
    rintro e w5 ⟨rfl, g5⟩
    have hB5 := hB4.then g5
    have HR5 := Lib.hid (HR4.out.gr g5)
    clear c0 c1 d0 j1 j2 HCP hB4 g5 HR4
    have d0 := hB5.d0
    have d1 := hB5.d1
    have HSI := Lib.hid (sameInts_any a b n c m d xs ys w5 (hx.gr hB5.gr) (hy.gr hB5.gr))
    go_wp2_with fail
    refine HSI.out.mono ?_
    rintro e w6 ⟨rfl, k, hw6⟩
    have g6 : Gr w5 w6 := by rw [hw6]; exact Gr.drewN _ _
    have hB6 := hB5.then g6
    have HR6 := Lib.hid (HR5.out.gr g6)
    clear hw6 d0 d1 HSI hB5 g6 HR5
    have d0 := hB6.d0
    have d1 := hB6.d1
    have j1 := hB6.j1
    go_upto_if 47 with fail
    go_cut [11] (fun s wx => s = .bool (decide (lastOf xs Q = ys)) ∧ Gr w6 wx)
    case first =>
      by_cases hj : 0 < pn
      · have hj1 : pn - 1 < pn := by omega
        obtain ⟨pp, qa, qn, qc, rfl, hpb, hpc, hqi⟩ := (hQ.gr hB6.gr).at hj1
        have hlo : lastOf xs Q = Q[pn - 1]?.getD [] := by rw [lastOf_at Q xs (by rw [hQ.len]; exact hj), hQ.len]
        have hq : ∀ k', Hid (Calls Try.prog 22 #[.slice qa qn qc, .slice b m d] (w6.drewN k') fun e w' => e = .returned (.bool (decide (Q[pn - 1]?.getD [] = ys))) ∧ ∃ q, w' = (w6.drewN k').drewN q) := fun k' => Lib.hid (sameInts_any qa b qn qc m d _ _ (w6.drewN k') (hqi.gr (Gr.drewN _ _)) ((hy.gr hB6.gr).gr (Gr.drewN _ _)))
        have HQ := Lib.hid hq
        have HLO := Lib.hid hlo
        have hpi : (0 : Int) < pn := by omega
        have hpt : ((pn : Int) - 1).toNat = pn - 1 := by omega
        have hpc' : w6.cell? (pp.add ((pn : Int) - 1).toNat) = some (.slice qa qn qc) := by rw [hpt]; exact hpc
        clear hq hlo hpt
        go_wp2_with fail
        go_quiet ((go_at_call 22; exact Calls.quiet_of (HQ.out _).out))
        go_wp2_with fail
        go_meet
        exact ⟨by rw [HLO.out], Gr.drewN _ _⟩
      · obtain rfl : pn = 0 := by omega
        go_wp2_with fail
        go_meet
        exact ⟨by have h0 : Q = [] := List.length_eq_zero_iff.1 hQ.len
                  rw [h0]; rfl, Gr.refl _⟩
    case rest =>
      obtain ⟨rfl, g7⟩ := hcut
      have hB7 := hB6.then g7
      have HR7 := Lib.hid (HR6.out.gr g7)
      clear d0 d1 j1 hB6 HR6 g7
      by_cases he : planE f xs ys bu = 0
      · obtain ⟨k1, k2, k3, k4, k5⟩ := planV_holds he
        have heb : (planE f xs ys bu != 0) = false := by simp [he]
        have HE := Lib.hid he
        have K1 := Lib.hid k1
        have K2 := Lib.hid k2
        have hcp := checkPlan_any ta ca a ra tn tc cn cc n c rn rc f xs (planV f xs ys bu) bu wc (hf.gr hB7.gr) (hx.gr hB7.gr) HR7.out
        rw [k3] at hcp
        have HCP := Lib.hid hcp
        clear he k1 k2 k3 k4 k5 hcp
        have c0 := hB7.c0
        have c1 := hB7.c1
        have d0 := hB7.d0
        have j2 := hB7.j2
        go_wp2_with fail
        refine HCP.out.mono ?_
        rintro e w8 ⟨rfl, g8⟩
        have hB8 := hB7.then g8
        have HR8 := Lib.hid (HR7.out.gr g8)
        clear c0 c1 d0 j2 HCP hB7 g8 HR7
        have d0 := hB8.d0
        have d1 := hB8.d1
        have hrl := HR8.out.lt
        go_upto_region 13 with fail
        go_cut [113] (fun s wx => s = .bool false ∧ Gr w8 wx)
        case first =>
          by_cases hj : 0 < rn
          · have hj1 : rn - 1 < rn := by omega
            obtain ⟨pp, qa, qn, qc, rfl, hpb, hpc, hqi⟩ := HR8.out.at hj1
            have hlo : (planV f xs ys bu)[rn - 1]?.getD [] = ys := by
              have h1 := lastOf_at (planV f xs ys bu) xs (by rw [HR8.out.len]; exact hj)
              rw [HR8.out.len, K2.out] at h1
              exact h1.symm
            have hq : ∀ k', Hid (Calls Try.prog 22 #[.slice qa qn qc, .slice b m d] (w8.drewN k') fun e w' => e = .returned (.bool true) ∧ ∃ q, w' = (w8.drewN k').drewN q) := fun k' => Lib.hid (by
              have := sameInts_any qa b qn qc m d _ _ (w8.drewN k') (hqi.gr (Gr.drewN _ _)) ((hy.gr hB8.gr).gr (Gr.drewN _ _))
              rw [decide_eq_true hlo] at this
              exact this)
            have HQ := Lib.hid hq
            have hpi : (0 : Int) < rn := by omega
            have hpz : ((rn : Int) == 0) = false := by simp; omega
            have hpt : ((rn : Int) - 1).toNat = rn - 1 := by omega
            have hpc' : w8.cell? (pp.add ((rn : Int) - 1).toNat) = some (.slice qa qn qc) := by rw [hpt]; exact hpc
            clear hq hlo hpt
            go_wp2_with fail
            go_quiet ((go_at_call 22; exact Calls.quiet_of (HQ.out _).out))
            go_wp2_with fail
            go_meet
            exact ⟨rfl, Gr.drewN _ _⟩
          · obtain rfl : rn = 0 := by omega
            have hxy : xs = ys := by
              have h0 : planV f xs ys bu = [] := List.length_eq_zero_iff.1 HR8.out.len
              have := K2.out
              rw [h0] at this; exact this
            have hq : ∀ k', Hid (Calls Try.prog 22 #[.slice a n c, .slice b m d] (w8.drewN k') fun e w' => e = .returned (.bool true) ∧ ∃ q, w' = (w8.drewN k').drewN q) := fun k' => Lib.hid (by
              have := sameInts_any a b n c m d _ _ (w8.drewN k') ((hx.gr hB8.gr).gr (Gr.drewN _ _)) ((hy.gr hB8.gr).gr (Gr.drewN _ _))
              rw [decide_eq_true hxy] at this
              exact this)
            have HQ := Lib.hid hq
            clear hq hxy
            go_wp2_with fail
            go_quiet ((go_at_call 22; exact Calls.quiet_of (HQ.out _).out))
            go_wp2_with fail
            go_meet
            exact ⟨rfl, Gr.drewN _ _⟩
        case rest =>
          obtain ⟨rfl, g9⟩ := hcut
          have hB9 := hB8.then g9
          have HR9 := Lib.hid (HR8.out.gr g9)
          clear d0 d1 hB8 HR8 g9
          by_cases hb : (cpR f xs Q bu).2 = 0
          · have hbb : ((cpR f xs Q bu).2 == 0) = true := by simp [hb]
            by_cases hl : lastOf xs Q = ys
            · have hlb : decide (lastOf xs Q = ys) = true := decide_eq_true hl
              have hns := no_shorter HE.out (cpR_pl hb) hl
              have HPQ := Lib.hid (cpR_pl hb)
              rw [HR9.out.len, hQ.len] at hns
              rw [hlb]
              clear hb hl hlb
              have hjr : ¬ (pn : Int) < rn := by omega
              by_cases hjn : pn = rn
              · have j1 := hB9.j1
                have hjd : decide (pn < rn) = false := decide_eq_false (by omega)
                have c0 := hB9.c0
                have c1 := hB9.c1
                have d0 := hB9.d0
                have hxx := hns.resolve_left (by omega)
                have ht : ∀ W', Gr wc W' → Calls Try.prog 24 #[.agg #[.slice ta tn tc, .slice ca cn cc], .slice a n c, .slice pa pn pc] W' fun e w' => e = .returned (.int .i64 (planTime f.times xs Q)) ∧ Gr W' w' := fun W' g => timesOf_any ta ca a pa tn tc cn cc n c pn pc f xs Q bu W' ((hf.gr hB9.gr).gr g) ((hx.gr hB9.gr).gr g) ((hQ.gr hB9.gr).gr g) HPQ.out
                have HT1 := Lib.hid ht
                have ht2 : ∀ W', Gr wc W' → Calls Try.prog 24 #[.agg #[.slice ta tn tc, .slice ca cn cc], .slice a n c, .slice ra rn rc] W' fun e w' => e = .returned (.int .i64 (planTime f.times xs (planV f xs ys bu))) ∧ Gr W' w' := fun W' g => timesOf_any ta ca a ra tn tc cn cc n c rn rc f xs (planV f xs ys bu) bu W' ((hf.gr hB9.gr).gr g) ((hx.gr hB9.gr).gr g) (HR9.out.gr g) K1.out
                have HT2 := Lib.hid ht2
                have htd : decide (planTime f.times xs Q < planTime f.times xs (planV f xs ys bu)) = false := decide_eq_false (by omega)
                have htl : ¬ planTime f.times xs Q < planTime f.times xs (planV f xs ys bu) := by omega
                have hee : ((pn : Int) == (rn : Int)) = true := by simp; omega
                clear ht ht2 hxx hns hjn
                generalize planTime f.times xs Q = tq at *
                generalize planTime f.times xs (planV f xs ys bu) = tp at *
                go_wp2_with fail
                refine (wpIn_wide (n := 0)).1 ?_
                refine region_inv (F := Fence.wide) (by kernel_rfl) (by rfl) (by decide) (fun _ => trivial)
                  (fun done' u W' => Kn [some (.pointer (some ⟨w.heap.size + 1 + 1, 1, none⟩)), some (.slice pa pn pc), some (.int .i64 pn), some (.slice ra rn rc), some (.int .i64 rn), some (.bool false), some (.bool false), some (.pointer (some ⟨w.heap.size + 1 + 1, 1, none⟩)), some (.slice pa pn pc), some (.int .i64 pn), some (.slice ra rn rc), some (.int .i64 rn), some (.bool true), some (.bool true), some (.agg #[.slice ta tn tc, .slice ca cn cc]), some (.pointer (some ⟨w.heap.size + 1, 0, none⟩)), some (.slice a n c), some (.pointer (some ⟨w.heap.size + 1 + 1, 1, none⟩)), some (.slice pa pn pc), some (.int .i64 tq), some (.agg #[.slice ta tn tc, .slice ca cn cc]), some (.pointer (some ⟨w.heap.size + 1, 0, none⟩)), some (.slice a n c), some (.slice ra rn rc), some (.int .i64 tp), some (.bool false), some (.bool false), some (.bool false)] done' u ∧ Gr wc W')
                  (fun u => ⟨Kn.start _ _, Gr.drew wc⟩) ⟨?_, ?_, ?_, ?_, ?_, ?_, ?_, ?_, ?_, ?_, ?_, ?_, ?_, ?_, ?_, ?_, ?_, ?_, ?_, ?_, ?_, ?_, ?_, ?_, ?_, ?_, ?_, ?_, trivial⟩ ?_
                · rintro u done' W' hd hanc hclo ⟨hk, hg⟩
                  refine op_plain (ro := none) rfl (fun c h => by cases h) fun K hK => ?_
                  simp only [fillL, List.setIfInBounds_toArray, List.set_cons_zero, List.set_cons_succ, Nat.zero_add, Nat.reduceAdd] at hK ⊢
                  go_simp
                  exact hK _ _ ⟨hk.new rfl, hg⟩
                · rintro u done' W' hd hanc hclo ⟨hk, hg⟩
                  have e0 := hk.get 0 rfl (hanc 0 (mem_of (by kernel_rfl)))
                  have c_j1 := (hg.cell (lt_cell j1)).trans j1
                  refine op_plain (ro := none) rfl (fun c h => by cases h) fun K hK => ?_
                  simp only [fillL, List.setIfInBounds_toArray, List.set_cons_zero, List.set_cons_succ, Nat.zero_add, Nat.reduceAdd, e0] at hK ⊢
                  go_simp
                  exact hK _ _ ⟨hk.new rfl, hg⟩
                · rintro u done' W' hd hanc hclo ⟨hk, hg⟩
                  have e1 := hk.get 1 rfl (hanc 1 (mem_of (by kernel_rfl)))
                  refine op_plain (ro := none) rfl (fun c h => by cases h) fun K hK => ?_
                  simp only [fillL, List.setIfInBounds_toArray, List.set_cons_zero, List.set_cons_succ, Nat.zero_add, Nat.reduceAdd, e1] at hK ⊢
                  go_simp
                  exact hK _ _ ⟨hk.new rfl, hg⟩
                · rintro u done' W' hd hanc hclo ⟨hk, hg⟩
                  refine op_plain (ro := none) rfl (fun c h => by cases h) fun K hK => ?_
                  simp only [fillL, List.setIfInBounds_toArray, List.set_cons_zero, List.set_cons_succ, Nat.zero_add, Nat.reduceAdd] at hK ⊢
                  go_simp
                  exact hK _ _ ⟨hk.new rfl, hg⟩
                · rintro u done' W' hd hanc hclo ⟨hk, hg⟩
                  have e3 := hk.get 3 rfl (hanc 3 (mem_of (by kernel_rfl)))
                  refine op_plain (ro := none) rfl (fun c h => by cases h) fun K hK => ?_
                  simp only [fillL, List.setIfInBounds_toArray, List.set_cons_zero, List.set_cons_succ, Nat.zero_add, Nat.reduceAdd, e3] at hK ⊢
                  go_simp
                  exact hK _ _ ⟨hk.new rfl, hg⟩
                · rintro u done' W' hd hanc hclo ⟨hk, hg⟩
                  have e2 := hk.get 2 rfl (hanc 2 (mem_of (by kernel_rfl)))
                  have e4 := hk.get 4 rfl (hanc 4 (mem_of (by kernel_rfl)))
                  refine op_plain (ro := none) rfl (fun c h => by cases h) fun K hK => ?_
                  simp only [fillL, List.setIfInBounds_toArray, List.set_cons_zero, List.set_cons_succ, Nat.zero_add, Nat.reduceAdd, e2, e4] at hK ⊢
                  go_simp
                  try rw [hjd]
                  exact hK _ _ ⟨hk.new rfl, hg⟩
                · rintro u done' W' hd hanc hclo ⟨hk, hg⟩
                  have e5 := hk.get 5 rfl (hanc 5 (mem_of (by kernel_rfl)))
                  refine op_plain (ro := none) rfl (fun c h => by cases h) fun K hK => ?_
                  simp only [fillL, List.setIfInBounds_toArray, List.set_cons_zero, List.set_cons_succ, Nat.zero_add, Nat.reduceAdd, e5] at hK ⊢
                  go_simp
                  exact hK _ _ ⟨hk.new rfl, hg⟩
                · intro u done' W' hd hanc hclo hR
                  have hk := hR.1
                  have e6 := hk.get 6 rfl (hanc 6 (mem_of (by kernel_rfl)))
                  with_reducible refine op_meetIn 6 false e6 ?_ ?_ ?_ ?_
                  · decide
                  · rfl
                  · rfl
                  refine op_in (ro := none) ?_ ?_
                  · intro c h; cases h
                  intro K hK
                  have hg := hR.2
                  simp only [fillL, List.setIfInBounds_toArray, List.set_cons_zero, List.set_cons_succ, Nat.zero_add, Nat.reduceAdd, e6] at hK ⊢
                  go_simp
                  exact hK _ _ ⟨hk.new rfl, hg⟩
                · intro u done' W' hd hanc hclo hR
                  have hk := hR.1
                  have e6 := hk.get 6 rfl (hanc 6 (mem_of (by kernel_rfl)))
                  have e7 := hk.get 7 rfl (hanc 7 (mem_of (by kernel_rfl)))
                  with_reducible refine op_meetIn 6 false e6 ?_ ?_ ?_ ?_
                  · decide
                  · rfl
                  · rfl
                  refine op_in (ro := none) ?_ ?_
                  · intro c h; cases h
                  intro K hK
                  have hg := hR.2
                  have c_j1 := (hg.cell (lt_cell j1)).trans j1
                  simp only [fillL, List.setIfInBounds_toArray, List.set_cons_zero, List.set_cons_succ, Nat.zero_add, Nat.reduceAdd, e6, e7] at hK ⊢
                  go_simp
                  exact hK _ _ ⟨hk.new rfl, hg⟩
                · intro u done' W' hd hanc hclo hR
                  have hk := hR.1
                  have e6 := hk.get 6 rfl (hanc 6 (mem_of (by kernel_rfl)))
                  have e8 := hk.get 8 rfl (hanc 8 (mem_of (by kernel_rfl)))
                  with_reducible refine op_meetIn 6 false e6 ?_ ?_ ?_ ?_
                  · decide
                  · rfl
                  · rfl
                  refine op_in (ro := none) ?_ ?_
                  · intro c h; cases h
                  intro K hK
                  have hg := hR.2
                  simp only [fillL, List.setIfInBounds_toArray, List.set_cons_zero, List.set_cons_succ, Nat.zero_add, Nat.reduceAdd, e6, e8] at hK ⊢
                  go_simp
                  exact hK _ _ ⟨hk.new rfl, hg⟩
                · intro u done' W' hd hanc hclo hR
                  have hk := hR.1
                  have e6 := hk.get 6 rfl (hanc 6 (mem_of (by kernel_rfl)))
                  with_reducible refine op_meetIn 6 false e6 ?_ ?_ ?_ ?_
                  · decide
                  · rfl
                  · rfl
                  refine op_in (ro := none) ?_ ?_
                  · intro c h; cases h
                  intro K hK
                  have hg := hR.2
                  simp only [fillL, List.setIfInBounds_toArray, List.set_cons_zero, List.set_cons_succ, Nat.zero_add, Nat.reduceAdd, e6] at hK ⊢
                  go_simp
                  exact hK _ _ ⟨hk.new rfl, hg⟩
                · intro u done' W' hd hanc hclo hR
                  have hk := hR.1
                  have e6 := hk.get 6 rfl (hanc 6 (mem_of (by kernel_rfl)))
                  have e10 := hk.get 10 rfl (hanc 10 (mem_of (by kernel_rfl)))
                  with_reducible refine op_meetIn 6 false e6 ?_ ?_ ?_ ?_
                  · decide
                  · rfl
                  · rfl
                  refine op_in (ro := none) ?_ ?_
                  · intro c h; cases h
                  intro K hK
                  have hg := hR.2
                  simp only [fillL, List.setIfInBounds_toArray, List.set_cons_zero, List.set_cons_succ, Nat.zero_add, Nat.reduceAdd, e6, e10] at hK ⊢
                  go_simp
                  exact hK _ _ ⟨hk.new rfl, hg⟩
                · intro u done' W' hd hanc hclo hR
                  have hk := hR.1
                  have e6 := hk.get 6 rfl (hanc 6 (mem_of (by kernel_rfl)))
                  have e9 := hk.get 9 rfl (hanc 9 (mem_of (by kernel_rfl)))
                  have e11 := hk.get 11 rfl (hanc 11 (mem_of (by kernel_rfl)))
                  with_reducible refine op_meetIn 6 false e6 ?_ ?_ ?_ ?_
                  · decide
                  · rfl
                  · rfl
                  refine op_in (ro := none) ?_ ?_
                  · intro c h; cases h
                  intro K hK
                  have hg := hR.2
                  simp only [fillL, List.setIfInBounds_toArray, List.set_cons_zero, List.set_cons_succ, Nat.zero_add, Nat.reduceAdd, e6, e9, e11] at hK ⊢
                  go_simp
                  exact hK _ _ ⟨hk.new rfl, hg⟩
                · intro u done' W' hd hanc hclo hR
                  have hk := hR.1
                  have e6 := hk.get 6 rfl (hanc 6 (mem_of (by kernel_rfl)))
                  have e12 := hk.get 12 rfl (hanc 12 (mem_of (by kernel_rfl)))
                  with_reducible refine op_meetIn 6 false e6 ?_ ?_ ?_ ?_
                  · decide
                  · rfl
                  · rfl
                  refine op_in (ro := none) ?_ ?_
                  · intro c h; cases h
                  intro K hK
                  have hg := hR.2
                  simp only [fillL, List.setIfInBounds_toArray, List.set_cons_zero, List.set_cons_succ, Nat.zero_add, Nat.reduceAdd, e6, e12] at hK ⊢
                  go_simp
                  exact hK _ _ ⟨hk.new rfl, hg⟩
                · intro u done' W' hd hanc hclo hR
                  have hk := hR.1
                  have e13 := hk.get 13 rfl (hanc 13 (mem_of (by kernel_rfl)))
                  with_reducible refine op_meetIn 13 true e13 ?_ ?_ ?_ ?_
                  · decide
                  · rfl
                  · rfl
                  refine op_in (ro := none) ?_ ?_
                  · intro c h; cases h
                  intro K hK
                  have hg := hR.2
                  have c_c0 := (hg.cell (lt_cell c0)).trans c0
                  have c_c1 := (hg.cell (lt_cell c1)).trans c1
                  simp only [fillL, List.setIfInBounds_toArray, List.set_cons_zero, List.set_cons_succ, Nat.zero_add, Nat.reduceAdd, e13] at hK ⊢
                  go_simp
                  exact hK _ _ ⟨hk.new rfl, hg⟩
                · intro u done' W' hd hanc hclo hR
                  have hk := hR.1
                  have e13 := hk.get 13 rfl (hanc 13 (mem_of (by kernel_rfl)))
                  with_reducible refine op_meetIn 13 true e13 ?_ ?_ ?_ ?_
                  · decide
                  · rfl
                  · rfl
                  refine op_in (ro := none) ?_ ?_
                  · intro c h; cases h
                  intro K hK
                  have hg := hR.2
                  simp only [fillL, List.setIfInBounds_toArray, List.set_cons_zero, List.set_cons_succ, Nat.zero_add, Nat.reduceAdd, e13] at hK ⊢
                  go_simp
                  exact hK _ _ ⟨hk.new rfl, hg⟩
                · intro u done' W' hd hanc hclo hR
                  have hk := hR.1
                  have e13 := hk.get 13 rfl (hanc 13 (mem_of (by kernel_rfl)))
                  have e15 := hk.get 15 rfl (hanc 15 (mem_of (by kernel_rfl)))
                  with_reducible refine op_meetIn 13 true e13 ?_ ?_ ?_ ?_
                  · decide
                  · rfl
                  · rfl
                  refine op_in (ro := none) ?_ ?_
                  · intro c h; cases h
                  intro K hK
                  have hg := hR.2
                  have c_d0 := (hg.cell (lt_cell d0)).trans d0
                  simp only [fillL, List.setIfInBounds_toArray, List.set_cons_zero, List.set_cons_succ, Nat.zero_add, Nat.reduceAdd, e13, e15] at hK ⊢
                  go_simp
                  exact hK _ _ ⟨hk.new rfl, hg⟩
                · intro u done' W' hd hanc hclo hR
                  have hk := hR.1
                  have e13 := hk.get 13 rfl (hanc 13 (mem_of (by kernel_rfl)))
                  with_reducible refine op_meetIn 13 true e13 ?_ ?_ ?_ ?_
                  · decide
                  · rfl
                  · rfl
                  refine op_in (ro := none) ?_ ?_
                  · intro c h; cases h
                  intro K hK
                  have hg := hR.2
                  simp only [fillL, List.setIfInBounds_toArray, List.set_cons_zero, List.set_cons_succ, Nat.zero_add, Nat.reduceAdd, e13] at hK ⊢
                  go_simp
                  exact hK _ _ ⟨hk.new rfl, hg⟩
                · intro u done' W' hd hanc hclo hR
                  have hk := hR.1
                  have e13 := hk.get 13 rfl (hanc 13 (mem_of (by kernel_rfl)))
                  have e17 := hk.get 17 rfl (hanc 17 (mem_of (by kernel_rfl)))
                  with_reducible refine op_meetIn 13 true e13 ?_ ?_ ?_ ?_
                  · decide
                  · rfl
                  · rfl
                  refine op_in (ro := none) ?_ ?_
                  · intro c h; cases h
                  intro K hK
                  have hg := hR.2
                  have c_j1 := (hg.cell (lt_cell j1)).trans j1
                  simp only [fillL, List.setIfInBounds_toArray, List.set_cons_zero, List.set_cons_succ, Nat.zero_add, Nat.reduceAdd, e13, e17] at hK ⊢
                  go_simp
                  exact hK _ _ ⟨hk.new rfl, hg⟩
                · intro u done' W' hd hanc hclo hR
                  have hk := hR.1
                  have e13 := hk.get 13 rfl (hanc 13 (mem_of (by kernel_rfl)))
                  have e14 := hk.get 14 rfl (hanc 14 (mem_of (by kernel_rfl)))
                  have e16 := hk.get 16 rfl (hanc 16 (mem_of (by kernel_rfl)))
                  have e18 := hk.get 18 rfl (hanc 18 (mem_of (by kernel_rfl)))
                  with_reducible refine op_meetIn 13 true e13 ?_ ?_ ?_ ?_
                  · decide
                  · rfl
                  · rfl
                  refine op_in (ro := none) ?_ ?_
                  · intro c h; cases h
                  intro K hK
                  have hg := hR.2
                  have HCON := Lib.hid (HT1.out W' hg)
                  simp only [fillL, List.setIfInBounds_toArray, List.set_cons_zero, List.set_cons_succ, Nat.zero_add, Nat.reduceAdd, e13, e14, e16, e18] at hK ⊢
                  go_simp
                  refine HCON.out.mono ?_
                  rintro e w11 ⟨rfl, hg6⟩
                  exact hK _ _ ⟨hk.new rfl, hg.trans hg6⟩
                · intro u done' W' hd hanc hclo hR
                  have hk := hR.1
                  have e13 := hk.get 13 rfl (hanc 13 (mem_of (by kernel_rfl)))
                  with_reducible refine op_meetIn 13 true e13 ?_ ?_ ?_ ?_
                  · decide
                  · rfl
                  · rfl
                  refine op_in (ro := none) ?_ ?_
                  · intro c h; cases h
                  intro K hK
                  have hg := hR.2
                  have c_c0 := (hg.cell (lt_cell c0)).trans c0
                  have c_c1 := (hg.cell (lt_cell c1)).trans c1
                  simp only [fillL, List.setIfInBounds_toArray, List.set_cons_zero, List.set_cons_succ, Nat.zero_add, Nat.reduceAdd, e13] at hK ⊢
                  go_simp
                  exact hK _ _ ⟨hk.new rfl, hg⟩
                · intro u done' W' hd hanc hclo hR
                  have hk := hR.1
                  have e13 := hk.get 13 rfl (hanc 13 (mem_of (by kernel_rfl)))
                  with_reducible refine op_meetIn 13 true e13 ?_ ?_ ?_ ?_
                  · decide
                  · rfl
                  · rfl
                  refine op_in (ro := none) ?_ ?_
                  · intro c h; cases h
                  intro K hK
                  have hg := hR.2
                  simp only [fillL, List.setIfInBounds_toArray, List.set_cons_zero, List.set_cons_succ, Nat.zero_add, Nat.reduceAdd, e13] at hK ⊢
                  go_simp
                  exact hK _ _ ⟨hk.new rfl, hg⟩
                · intro u done' W' hd hanc hclo hR
                  have hk := hR.1
                  have e13 := hk.get 13 rfl (hanc 13 (mem_of (by kernel_rfl)))
                  have e21 := hk.get 21 rfl (hanc 21 (mem_of (by kernel_rfl)))
                  with_reducible refine op_meetIn 13 true e13 ?_ ?_ ?_ ?_
                  · decide
                  · rfl
                  · rfl
                  refine op_in (ro := none) ?_ ?_
                  · intro c h; cases h
                  intro K hK
                  have hg := hR.2
                  have c_d0 := (hg.cell (lt_cell d0)).trans d0
                  simp only [fillL, List.setIfInBounds_toArray, List.set_cons_zero, List.set_cons_succ, Nat.zero_add, Nat.reduceAdd, e13, e21] at hK ⊢
                  go_simp
                  exact hK _ _ ⟨hk.new rfl, hg⟩
                · intro u done' W' hd hanc hclo hR
                  have hk := hR.1
                  have e13 := hk.get 13 rfl (hanc 13 (mem_of (by kernel_rfl)))
                  with_reducible refine op_meetIn 13 true e13 ?_ ?_ ?_ ?_
                  · decide
                  · rfl
                  · rfl
                  refine op_in (ro := none) ?_ ?_
                  · intro c h; cases h
                  intro K hK
                  have hg := hR.2
                  simp only [fillL, List.setIfInBounds_toArray, List.set_cons_zero, List.set_cons_succ, Nat.zero_add, Nat.reduceAdd, e13] at hK ⊢
                  go_simp
                  exact hK _ _ ⟨hk.new rfl, hg⟩
                · intro u done' W' hd hanc hclo hR
                  have hk := hR.1
                  have e13 := hk.get 13 rfl (hanc 13 (mem_of (by kernel_rfl)))
                  have e20 := hk.get 20 rfl (hanc 20 (mem_of (by kernel_rfl)))
                  have e22 := hk.get 22 rfl (hanc 22 (mem_of (by kernel_rfl)))
                  have e23 := hk.get 23 rfl (hanc 23 (mem_of (by kernel_rfl)))
                  with_reducible refine op_meetIn 13 true e13 ?_ ?_ ?_ ?_
                  · decide
                  · rfl
                  · rfl
                  refine op_in (ro := none) ?_ ?_
                  · intro c h; cases h
                  intro K hK
                  have hg := hR.2
                  have HCON := Lib.hid (HT2.out W' hg)
                  simp only [fillL, List.setIfInBounds_toArray, List.set_cons_zero, List.set_cons_succ, Nat.zero_add, Nat.reduceAdd, e13, e20, e22, e23] at hK ⊢
                  go_simp
                  refine HCON.out.mono ?_
                  rintro e w11 ⟨rfl, hg6⟩
                  exact hK _ _ ⟨hk.new rfl, hg.trans hg6⟩
                · intro u done' W' hd hanc hclo hR
                  have hk := hR.1
                  have e13 := hk.get 13 rfl (hanc 13 (mem_of (by kernel_rfl)))
                  have e19 := hk.get 19 rfl (hanc 19 (mem_of (by kernel_rfl)))
                  have e24 := hk.get 24 rfl (hanc 24 (mem_of (by kernel_rfl)))
                  with_reducible refine op_meetIn 13 true e13 ?_ ?_ ?_ ?_
                  · decide
                  · rfl
                  · rfl
                  refine op_in (ro := none) ?_ ?_
                  · intro c h; cases h
                  intro K hK
                  have hg := hR.2
                  simp only [fillL, List.setIfInBounds_toArray, List.set_cons_zero, List.set_cons_succ, Nat.zero_add, Nat.reduceAdd, e13, e19, e24] at hK ⊢
                  go_simp
                  try rw [htd]
                  exact hK _ _ ⟨hk.new rfl, hg⟩
                · intro u done' W' hd hanc hclo hR
                  have hk := hR.1
                  have e6 := hk.get 6 rfl (hanc 6 (mem_of (by kernel_rfl)))
                  have e13 := hk.get 13 rfl (hanc 13 (mem_of (by kernel_rfl)))
                  have e25 := hk.get 25 rfl (hanc 25 (mem_of (by kernel_rfl)))
                  with_reducible refine op_meetIn 6 false e6 ?_ ?_ ?_ ?_
                  · decide
                  · rfl
                  · rfl
                  refine op_in (ro := none) ?_ ?_
                  · intro c h; cases h
                  intro K hK
                  have hg := hR.2
                  simp only [fillL, List.setIfInBounds_toArray, List.set_cons_zero, List.set_cons_succ, Nat.zero_add, Nat.reduceAdd, e6, e13, e25] at hK ⊢
                  go_simp
                  exact hK _ _ ⟨hk.new rfl, hg⟩
                · rintro u done' W' hd hanc hclo ⟨hk, hg⟩
                  have e6 := hk.get 6 rfl (hanc 6 (mem_of (by kernel_rfl)))
                  have e26 := hk.get 26 rfl (hanc 26 (mem_of (by kernel_rfl)))
                  refine op_plain (ro := none) rfl (fun c h => by cases h) fun K hK => ?_
                  simp only [fillL, List.setIfInBounds_toArray, List.set_cons_zero, List.set_cons_succ, Nat.zero_add, Nat.reduceAdd, e6, e26] at hK ⊢
                  go_simp
                  exact hK _ _ ⟨hk.new rfl, hg⟩
                · rintro u W' ⟨done', hdn, hk, hg⟩
                  have e27 := hk.get 27 rfl (hdn 27 (by decide))
                  simp only [fillL, List.setIfInBounds_toArray, List.set_cons_zero, List.set_cons_succ, Nat.zero_add, Nat.reduceAdd, e27]
                  go_wp2_with fail
                  refine (HLOOK.out _).mono ?_
                  rintro e w12 ⟨rfl, g12⟩
                  go_wp2_with fail
                  go_ret
                  exact ⟨rfl, (hB9.gr.trans hg).trans g12⟩
              · have j1 := hB9.j1
                have hjd : decide (pn < rn) = false := decide_eq_false (by omega)
                have c0 := hB9.c0
                have c1 := hB9.c1
                have d0 := hB9.d0
                have hee : ((pn : Int) == (rn : Int)) = false := by simp; omega
                clear hns hjn
                go_wp2_with fail
                refine (wpIn_wide (n := 0)).1 ?_
                refine region_inv (F := Fence.wide) (by kernel_rfl) (by rfl) (by decide) (fun _ => trivial)
                  (fun done' u W' => Kn [some (.pointer (some ⟨w.heap.size + 1 + 1, 1, none⟩)), some (.slice pa pn pc), some (.int .i64 pn), some (.slice ra rn rc), some (.int .i64 rn), some (.bool false), some (.bool false), some (.pointer (some ⟨w.heap.size + 1 + 1, 1, none⟩)), some (.slice pa pn pc), some (.int .i64 pn), some (.slice ra rn rc), some (.int .i64 rn), some (.bool false), some (.bool false), none, none, none, none, none, none, none, none, none, none, none, none, some (.bool false), some (.bool false)] done' u ∧ Gr wc W')
                  (fun u => ⟨Kn.start _ _, Gr.drew wc⟩) ⟨?_, ?_, ?_, ?_, ?_, ?_, ?_, ?_, ?_, ?_, ?_, ?_, ?_, ?_, ?_, ?_, ?_, ?_, ?_, ?_, ?_, ?_, ?_, ?_, ?_, ?_, ?_, ?_, trivial⟩ ?_
                · rintro u done' W' hd hanc hclo ⟨hk, hg⟩
                  refine op_plain (ro := none) rfl (fun c h => by cases h) fun K hK => ?_
                  simp only [fillL, List.setIfInBounds_toArray, List.set_cons_zero, List.set_cons_succ, Nat.zero_add, Nat.reduceAdd] at hK ⊢
                  go_simp
                  exact hK _ _ ⟨hk.new rfl, hg⟩
                · rintro u done' W' hd hanc hclo ⟨hk, hg⟩
                  have e0 := hk.get 0 rfl (hanc 0 (mem_of (by kernel_rfl)))
                  have c_j1 := (hg.cell (lt_cell j1)).trans j1
                  refine op_plain (ro := none) rfl (fun c h => by cases h) fun K hK => ?_
                  simp only [fillL, List.setIfInBounds_toArray, List.set_cons_zero, List.set_cons_succ, Nat.zero_add, Nat.reduceAdd, e0] at hK ⊢
                  go_simp
                  exact hK _ _ ⟨hk.new rfl, hg⟩
                · rintro u done' W' hd hanc hclo ⟨hk, hg⟩
                  have e1 := hk.get 1 rfl (hanc 1 (mem_of (by kernel_rfl)))
                  refine op_plain (ro := none) rfl (fun c h => by cases h) fun K hK => ?_
                  simp only [fillL, List.setIfInBounds_toArray, List.set_cons_zero, List.set_cons_succ, Nat.zero_add, Nat.reduceAdd, e1] at hK ⊢
                  go_simp
                  exact hK _ _ ⟨hk.new rfl, hg⟩
                · rintro u done' W' hd hanc hclo ⟨hk, hg⟩
                  refine op_plain (ro := none) rfl (fun c h => by cases h) fun K hK => ?_
                  simp only [fillL, List.setIfInBounds_toArray, List.set_cons_zero, List.set_cons_succ, Nat.zero_add, Nat.reduceAdd] at hK ⊢
                  go_simp
                  exact hK _ _ ⟨hk.new rfl, hg⟩
                · rintro u done' W' hd hanc hclo ⟨hk, hg⟩
                  have e3 := hk.get 3 rfl (hanc 3 (mem_of (by kernel_rfl)))
                  refine op_plain (ro := none) rfl (fun c h => by cases h) fun K hK => ?_
                  simp only [fillL, List.setIfInBounds_toArray, List.set_cons_zero, List.set_cons_succ, Nat.zero_add, Nat.reduceAdd, e3] at hK ⊢
                  go_simp
                  exact hK _ _ ⟨hk.new rfl, hg⟩
                · rintro u done' W' hd hanc hclo ⟨hk, hg⟩
                  have e2 := hk.get 2 rfl (hanc 2 (mem_of (by kernel_rfl)))
                  have e4 := hk.get 4 rfl (hanc 4 (mem_of (by kernel_rfl)))
                  refine op_plain (ro := none) rfl (fun c h => by cases h) fun K hK => ?_
                  simp only [fillL, List.setIfInBounds_toArray, List.set_cons_zero, List.set_cons_succ, Nat.zero_add, Nat.reduceAdd, e2, e4] at hK ⊢
                  go_simp
                  try rw [hjd]
                  exact hK _ _ ⟨hk.new rfl, hg⟩
                · rintro u done' W' hd hanc hclo ⟨hk, hg⟩
                  have e5 := hk.get 5 rfl (hanc 5 (mem_of (by kernel_rfl)))
                  refine op_plain (ro := none) rfl (fun c h => by cases h) fun K hK => ?_
                  simp only [fillL, List.setIfInBounds_toArray, List.set_cons_zero, List.set_cons_succ, Nat.zero_add, Nat.reduceAdd, e5] at hK ⊢
                  go_simp
                  exact hK _ _ ⟨hk.new rfl, hg⟩
                · intro u done' W' hd hanc hclo hR
                  have hk := hR.1
                  have e6 := hk.get 6 rfl (hanc 6 (mem_of (by kernel_rfl)))
                  with_reducible refine op_meetIn 6 false e6 ?_ ?_ ?_ ?_
                  · decide
                  · rfl
                  · rfl
                  refine op_in (ro := none) ?_ ?_
                  · intro c h; cases h
                  intro K hK
                  have hg := hR.2
                  simp only [fillL, List.setIfInBounds_toArray, List.set_cons_zero, List.set_cons_succ, Nat.zero_add, Nat.reduceAdd, e6] at hK ⊢
                  go_simp
                  exact hK _ _ ⟨hk.new rfl, hg⟩
                · intro u done' W' hd hanc hclo hR
                  have hk := hR.1
                  have e6 := hk.get 6 rfl (hanc 6 (mem_of (by kernel_rfl)))
                  have e7 := hk.get 7 rfl (hanc 7 (mem_of (by kernel_rfl)))
                  with_reducible refine op_meetIn 6 false e6 ?_ ?_ ?_ ?_
                  · decide
                  · rfl
                  · rfl
                  refine op_in (ro := none) ?_ ?_
                  · intro c h; cases h
                  intro K hK
                  have hg := hR.2
                  have c_j1 := (hg.cell (lt_cell j1)).trans j1
                  simp only [fillL, List.setIfInBounds_toArray, List.set_cons_zero, List.set_cons_succ, Nat.zero_add, Nat.reduceAdd, e6, e7] at hK ⊢
                  go_simp
                  exact hK _ _ ⟨hk.new rfl, hg⟩
                · intro u done' W' hd hanc hclo hR
                  have hk := hR.1
                  have e6 := hk.get 6 rfl (hanc 6 (mem_of (by kernel_rfl)))
                  have e8 := hk.get 8 rfl (hanc 8 (mem_of (by kernel_rfl)))
                  with_reducible refine op_meetIn 6 false e6 ?_ ?_ ?_ ?_
                  · decide
                  · rfl
                  · rfl
                  refine op_in (ro := none) ?_ ?_
                  · intro c h; cases h
                  intro K hK
                  have hg := hR.2
                  simp only [fillL, List.setIfInBounds_toArray, List.set_cons_zero, List.set_cons_succ, Nat.zero_add, Nat.reduceAdd, e6, e8] at hK ⊢
                  go_simp
                  exact hK _ _ ⟨hk.new rfl, hg⟩
                · intro u done' W' hd hanc hclo hR
                  have hk := hR.1
                  have e6 := hk.get 6 rfl (hanc 6 (mem_of (by kernel_rfl)))
                  with_reducible refine op_meetIn 6 false e6 ?_ ?_ ?_ ?_
                  · decide
                  · rfl
                  · rfl
                  refine op_in (ro := none) ?_ ?_
                  · intro c h; cases h
                  intro K hK
                  have hg := hR.2
                  simp only [fillL, List.setIfInBounds_toArray, List.set_cons_zero, List.set_cons_succ, Nat.zero_add, Nat.reduceAdd, e6] at hK ⊢
                  go_simp
                  exact hK _ _ ⟨hk.new rfl, hg⟩
                · intro u done' W' hd hanc hclo hR
                  have hk := hR.1
                  have e6 := hk.get 6 rfl (hanc 6 (mem_of (by kernel_rfl)))
                  have e10 := hk.get 10 rfl (hanc 10 (mem_of (by kernel_rfl)))
                  with_reducible refine op_meetIn 6 false e6 ?_ ?_ ?_ ?_
                  · decide
                  · rfl
                  · rfl
                  refine op_in (ro := none) ?_ ?_
                  · intro c h; cases h
                  intro K hK
                  have hg := hR.2
                  simp only [fillL, List.setIfInBounds_toArray, List.set_cons_zero, List.set_cons_succ, Nat.zero_add, Nat.reduceAdd, e6, e10] at hK ⊢
                  go_simp
                  exact hK _ _ ⟨hk.new rfl, hg⟩
                · intro u done' W' hd hanc hclo hR
                  have hk := hR.1
                  have e6 := hk.get 6 rfl (hanc 6 (mem_of (by kernel_rfl)))
                  have e9 := hk.get 9 rfl (hanc 9 (mem_of (by kernel_rfl)))
                  have e11 := hk.get 11 rfl (hanc 11 (mem_of (by kernel_rfl)))
                  with_reducible refine op_meetIn 6 false e6 ?_ ?_ ?_ ?_
                  · decide
                  · rfl
                  · rfl
                  refine op_in (ro := none) ?_ ?_
                  · intro c h; cases h
                  intro K hK
                  have hg := hR.2
                  simp only [fillL, List.setIfInBounds_toArray, List.set_cons_zero, List.set_cons_succ, Nat.zero_add, Nat.reduceAdd, e6, e9, e11] at hK ⊢
                  go_simp
                  exact hK _ _ ⟨hk.new rfl, hg⟩
                · intro u done' W' hd hanc hclo hR
                  have hk := hR.1
                  have e6 := hk.get 6 rfl (hanc 6 (mem_of (by kernel_rfl)))
                  have e12 := hk.get 12 rfl (hanc 12 (mem_of (by kernel_rfl)))
                  with_reducible refine op_meetIn 6 false e6 ?_ ?_ ?_ ?_
                  · decide
                  · rfl
                  · rfl
                  refine op_in (ro := none) ?_ ?_
                  · intro c h; cases h
                  intro K hK
                  have hg := hR.2
                  simp only [fillL, List.setIfInBounds_toArray, List.set_cons_zero, List.set_cons_succ, Nat.zero_add, Nat.reduceAdd, e6, e12] at hK ⊢
                  go_simp
                  exact hK _ _ ⟨hk.new rfl, hg⟩
                · intro u done' W' hd hanc hclo hR
                  have e13 := hR.1.get 13 rfl (hanc 13 (mem_of (by kernel_rfl)))
                  with_reducible refine op_skip 13 true e13 rfl ?_ ?_ rfl ?_
                  · decide
                  · rfl
                  · obtain ⟨hk, hg⟩ := hR
                    exact ⟨hk.skip rfl, hg⟩
                · intro u done' W' hd hanc hclo hR
                  have e13 := hR.1.get 13 rfl (hanc 13 (mem_of (by kernel_rfl)))
                  with_reducible refine op_skip 13 true e13 rfl ?_ ?_ rfl ?_
                  · decide
                  · rfl
                  · obtain ⟨hk, hg⟩ := hR
                    exact ⟨hk.skip rfl, hg⟩
                · intro u done' W' hd hanc hclo hR
                  have e13 := hR.1.get 13 rfl (hanc 13 (mem_of (by kernel_rfl)))
                  with_reducible refine op_skip 13 true e13 rfl ?_ ?_ rfl ?_
                  · decide
                  · rfl
                  · obtain ⟨hk, hg⟩ := hR
                    exact ⟨hk.skip rfl, hg⟩
                · intro u done' W' hd hanc hclo hR
                  have e13 := hR.1.get 13 rfl (hanc 13 (mem_of (by kernel_rfl)))
                  with_reducible refine op_skip 13 true e13 rfl ?_ ?_ rfl ?_
                  · decide
                  · rfl
                  · obtain ⟨hk, hg⟩ := hR
                    exact ⟨hk.skip rfl, hg⟩
                · intro u done' W' hd hanc hclo hR
                  have e13 := hR.1.get 13 rfl (hanc 13 (mem_of (by kernel_rfl)))
                  with_reducible refine op_skip 13 true e13 rfl ?_ ?_ rfl ?_
                  · decide
                  · rfl
                  · obtain ⟨hk, hg⟩ := hR
                    exact ⟨hk.skip rfl, hg⟩
                · intro u done' W' hd hanc hclo hR
                  have e13 := hR.1.get 13 rfl (hanc 13 (mem_of (by kernel_rfl)))
                  with_reducible refine op_skip 13 true e13 rfl ?_ ?_ rfl ?_
                  · decide
                  · rfl
                  · obtain ⟨hk, hg⟩ := hR
                    exact ⟨hk.skip rfl, hg⟩
                · intro u done' W' hd hanc hclo hR
                  have e13 := hR.1.get 13 rfl (hanc 13 (mem_of (by kernel_rfl)))
                  with_reducible refine op_skip 13 true e13 rfl ?_ ?_ rfl ?_
                  · decide
                  · rfl
                  · obtain ⟨hk, hg⟩ := hR
                    exact ⟨hk.skip rfl, hg⟩
                · intro u done' W' hd hanc hclo hR
                  have e13 := hR.1.get 13 rfl (hanc 13 (mem_of (by kernel_rfl)))
                  with_reducible refine op_skip 13 true e13 rfl ?_ ?_ rfl ?_
                  · decide
                  · rfl
                  · obtain ⟨hk, hg⟩ := hR
                    exact ⟨hk.skip rfl, hg⟩
                · intro u done' W' hd hanc hclo hR
                  have e13 := hR.1.get 13 rfl (hanc 13 (mem_of (by kernel_rfl)))
                  with_reducible refine op_skip 13 true e13 rfl ?_ ?_ rfl ?_
                  · decide
                  · rfl
                  · obtain ⟨hk, hg⟩ := hR
                    exact ⟨hk.skip rfl, hg⟩
                · intro u done' W' hd hanc hclo hR
                  have e13 := hR.1.get 13 rfl (hanc 13 (mem_of (by kernel_rfl)))
                  with_reducible refine op_skip 13 true e13 rfl ?_ ?_ rfl ?_
                  · decide
                  · rfl
                  · obtain ⟨hk, hg⟩ := hR
                    exact ⟨hk.skip rfl, hg⟩
                · intro u done' W' hd hanc hclo hR
                  have e13 := hR.1.get 13 rfl (hanc 13 (mem_of (by kernel_rfl)))
                  with_reducible refine op_skip 13 true e13 rfl ?_ ?_ rfl ?_
                  · decide
                  · rfl
                  · obtain ⟨hk, hg⟩ := hR
                    exact ⟨hk.skip rfl, hg⟩
                · intro u done' W' hd hanc hclo hR
                  have e13 := hR.1.get 13 rfl (hanc 13 (mem_of (by kernel_rfl)))
                  with_reducible refine op_skip 13 true e13 rfl ?_ ?_ rfl ?_
                  · decide
                  · rfl
                  · obtain ⟨hk, hg⟩ := hR
                    exact ⟨hk.skip rfl, hg⟩
                · intro u done' W' hd hanc hclo hR
                  have hk := hR.1
                  have e6 := hk.get 6 rfl (hanc 6 (mem_of (by kernel_rfl)))
                  have e13 := hk.get 13 rfl (hanc 13 (mem_of (by kernel_rfl)))
                  with_reducible refine op_meetIn 6 false e6 ?_ ?_ ?_ ?_
                  · decide
                  · rfl
                  · rfl
                  refine op_in (ro := none) ?_ ?_
                  · intro c h; cases h
                  intro K hK
                  have hg := hR.2
                  simp only [fillL, List.setIfInBounds_toArray, List.set_cons_zero, List.set_cons_succ, Nat.zero_add, Nat.reduceAdd, e6, e13] at hK ⊢
                  go_simp
                  exact hK _ _ ⟨hk.new rfl, hg⟩
                · rintro u done' W' hd hanc hclo ⟨hk, hg⟩
                  have e6 := hk.get 6 rfl (hanc 6 (mem_of (by kernel_rfl)))
                  have e26 := hk.get 26 rfl (hanc 26 (mem_of (by kernel_rfl)))
                  refine op_plain (ro := none) rfl (fun c h => by cases h) fun K hK => ?_
                  simp only [fillL, List.setIfInBounds_toArray, List.set_cons_zero, List.set_cons_succ, Nat.zero_add, Nat.reduceAdd, e6, e26] at hK ⊢
                  go_simp
                  exact hK _ _ ⟨hk.new rfl, hg⟩
                · rintro u W' ⟨done', hdn, hk, hg⟩
                  have e27 := hk.get 27 rfl (hdn 27 (by decide))
                  simp only [fillL, List.setIfInBounds_toArray, List.set_cons_zero, List.set_cons_succ, Nat.zero_add, Nat.reduceAdd, e27]
                  go_wp2_with fail
                  refine (HLOOK.out _).mono ?_
                  rintro e w12 ⟨rfl, g12⟩
                  go_wp2_with fail
                  go_ret
                  exact ⟨rfl, (hB9.gr.trans hg).trans g12⟩
            · have hlb : decide (lastOf xs Q = ys) = false := decide_eq_false hl
              rw [hlb]
              clear hb hl hlb
              go_wp2_with fail
              refine (HLOOK.out _).mono ?_
              rintro e w10 ⟨rfl, g10⟩
              go_wp2_with fail
              go_ret
              exact ⟨rfl, hB9.gr.trans g10⟩
          · have hbb : ((cpR f xs Q bu).2 == 0) = false := by simp [hb]
            clear hb
            go_wp2_with fail
            refine (HLOOK.out _).mono ?_
            rintro e w10 ⟨rfl, g10⟩
            go_wp2_with fail
            go_ret
            exact ⟨rfl, hB9.gr.trans g10⟩
      · have heb : (planE f xs ys bu != 0) = true := by simp [he]
        by_cases h12 : planE f xs ys bu = 112
        · have h12b : (planE f xs ys bu != 112) = false := by simp [h12]
          by_cases hb : (cpR f xs Q bu).2 = 0
          · have hbb : ((cpR f xs Q bu).2 != 0) = false := by simp [hb]
            have harr : decide (lastOf xs Q = ys) = false := decide_eq_false fun hl => no_plan h12 (cpR_pl hb) hl
            rw [harr]
            clear he h12 hb harr
            go_wp2_with fail
            refine (HLOOK.out _).mono ?_
            rintro e w8 ⟨rfl, g8⟩
            go_wp2_with fail
            go_ret
            exact ⟨rfl, hB7.gr.trans g8⟩
          · have hbb : ((cpR f xs Q bu).2 != 0) = true := by simp [hb]
            clear he h12 hb
            go_wp2_with fail
            refine (HLOOK.out _).mono ?_
            rintro e w8 ⟨rfl, g8⟩
            go_wp2_with fail
            go_ret
            exact ⟨rfl, hB7.gr.trans g8⟩
        · have h12b : (planE f xs ys bu != 112) = true := by simp [h12]
          clear he h12
          go_wp2_with fail
          refine (HLOOK.out _).mono ?_
          rintro e w8 ⟨rfl, g8⟩
          go_wp2_with fail
          go_ret
          exact ⟨rfl, hB7.gr.trans g8⟩
end Go.Proofs.Ytlilojpnhmfnaaa
