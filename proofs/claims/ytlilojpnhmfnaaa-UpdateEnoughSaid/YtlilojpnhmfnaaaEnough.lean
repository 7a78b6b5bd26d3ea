/- Contract: UpdateEnough returns true. -/
import Derived.Test.YtlilojpnhmfnaaaLook
import Derived.Test.YtlilojpnhmfnaaaLawE
namespace Go.Proofs.Ytlilojpnhmfnaaa
open Go.RowKit

/-- the boxes of a law: a fleet and a trip -/
structure LawB (w w2 : World) (va vb vc vd : Value) : Prop where
  gr : Gr w w2
  c0 : w2.cell? ⟨w.heap.size, 0, none⟩ = some va
  c1 : w2.cell? ⟨w.heap.size, 1, none⟩ = some vb
  d0 : w2.cell? ⟨w.heap.size + 1, 0, none⟩ = some vc
  d1 : w2.cell? ⟨w.heap.size + 1, 1, none⟩ = some vd
theorem lawB (w : World) (va vb vc vd : Value) (t : TypeId) : LawB w ((w.alloc (.cells #[va, vb] 25)).alloc (.cells #[vc, vd] t)) va vb vc vd := by
  have s1 : (w.alloc (.cells #[va, vb] 25)).heap.size = w.heap.size + 1 := by simp
  have g := Gr.alloc (w.alloc (.cells #[va, vb] 25)) (.cells #[vc, vd] t)
  refine ⟨(Gr.alloc _ _).allocR _, (g.cell (by simp)).trans (cell_new rfl), (g.cell (by simp)).trans (cell_new rfl), ?_, ?_⟩
  · rw [← s1]; exact cell_new rfl
  · rw [← s1]; exact cell_new rfl
theorem LawB.then {w w2 w' : World} {va vb vc vd : Value} (h : LawB w w2 va vb vc vd) (g : Gr w2 w') : LawB w w' va vb vc vd :=
  ⟨h.gr.trans g, (g.cell (lt_cell h.c0)).trans h.c0, (g.cell (lt_cell h.c1)).trans h.c1, (g.cell (lt_cell h.d0)).trans h.d0, (g.cell (lt_cell h.d1)).trans h.d1⟩

set_option maxRecDepth 100000 in
set_option maxHeartbeats 2000000 in
theorem enough_any (ta ca a b : Option Addr) (tn tc cn cc n c m d : Nat) (f : Fl) (xs ys : List Int) (w : World) (hf : FlAt w ta tn ca cn f) (hx : Ints w a n xs) (hy : Ints w b m ys) :
    Calls Try.prog 4 #[.agg #[.slice ta tn tc, .slice ca cn cc], .agg #[.slice a n c, .slice b m d]] w fun e w' => e = .returned (.bool true) ∧ Gr w w' := by
  have hB := lawB w (.slice ta tn tc) (.slice ca cn cc) (.slice a n c) (.slice b m d) 28
  obtain ⟨w2, hw2⟩ : ∃ w2, (w.alloc (.cells #[.slice ta tn tc, .slice ca cn cc] 25)).alloc (.cells #[.slice a n c, .slice b m d] 28) = w2 := ⟨_, rfl⟩
  rw [hw2] at hB
  have c0 := hB.c0
  have c1 := hB.c1
  have HL := Lib.hid (large_any ta ca tn tc cn cc f w2 (hf.gr hB.gr))
  have HLOOK := Lib.hid look_any
  go_enter Try.func4, Try.ntmps4
  go_wp2_with fail
  refine HL.out.mono ?_
  rintro e w3 ⟨rfl, g3⟩
  have hB3 := hB.then g3
  clear hw2 hB c0 c1 HL g3
  cases hlg : largeB f.times with
  | true =>
    go_wp2_with fail
    refine (HLOOK.out _).mono ?_
    rintro e w4 ⟨rfl, g4⟩
    go_wp2_with fail
    go_ret
    exact ⟨rfl, hB3.gr.trans g4⟩
  | false =>
    have c0 := hB3.c0
    have c1 := hB3.c1
    have d0 := hB3.d0
    have d1 := hB3.d1
    have HLE := Lib.hid (leastF_any ta ca a b tn tc cn cc n c m d f xs ys w3 (hf.gr hB3.gr) (hx.gr hB3.gr) (hy.gr hB3.gr))
    go_wp2_with fail
    refine HLE.out.mono ?_
    rintro e w4 ⟨rfl, g4⟩
    have hB4 := hB3.then g4
    clear c0 c1 d0 d1 HLE hB3 g4
    have c0 := hB4.c0
    have c1 := hB4.c1
    have d0 := hB4.d0
    have d1 := hB4.d1
    have HPL := Lib.hid (plan_any ta ca a b tn tc cn cc n c m d f xs ys 1000000 w4 (hf.gr hB4.gr) (hx.gr hB4.gr) (hy.gr hB4.gr))
    have hpe := Lib.hid (planE_of_least (f := f) (a := xs) (b := ys) (bu := 1000000) (by omega) (by omega))
    go_wp2_with fail
    refine HPL.out.mono ?_
    rintro e w5 ⟨ra, rn, rc, rfl, _, g5⟩
    have hB5 := hB4.then g5
    clear c0 c1 d0 d1 HPL hB4 g5
    by_cases he : leastE f xs ys = 0
    · have hz : statesE f [xs, ys] = 0 := by
        unfold leastE at he
        by_cases hz : statesE f [xs, ys] = 0
        · exact hz
        · rw [if_neg hz] at he; exact absurd he hz
      obtain ⟨hok, hsx, hsy⟩ := statesE_ok2 hz
      have hab : aboveV ys xs = true := by
        unfold leastE at he
        rw [if_pos hz] at he
        cases h : aboveV ys xs with
        | true => rfl
        | false => rw [h] at he; split at he <;> simp at he
      have hbd := leastV_bd hok hsx hsy hab
      have hlr : leastR f xs ys = leastV f ys xs := by unfold leastR; rw [if_pos he]
      have hp1 : planE f xs ys 1000000 = 0 := by rw [hpe.out, if_pos he, if_pos (by omega)]
      have hp2 : planE f xs ys (leastV f ys xs) = 0 := by rw [planE_of_least hbd.1 (by omega), if_pos he, if_pos (Int.le_refl _)]
      have hpos : ¬ xs = ys → 0 < leastV f ys xs := fun hne => leastV_pos hok hsx hsy hab hne
      have hp3 : 0 < leastV f ys xs → planE f xs ys (leastV f ys xs - 1) = 112 := fun h => by rw [planE_of_least (by omega) (by omega), if_pos he, if_neg (by omega)]
      have c0 := hB5.c0
      have c1 := hB5.c1
      have d0 := hB5.d0
      have d1 := hB5.d1
      have HPL2 := plan_any ta ca a b tn tc cn cc n c m d f xs ys (leastV f ys xs) w5 (hf.gr hB5.gr) (hx.gr hB5.gr) (hy.gr hB5.gr)
      rw [hp2] at HPL2
      have HPL := Lib.hid HPL2
      rw [he, hp1, hlr]
      have HE := Lib.hid he
      have HP3 := Lib.hid hp3
      have HPOS := Lib.hid hpos
      have hend : xs = ys → leastV f ys xs = 0 := fun e => by subst e; exact leastV_end _ _
      have HEND := Lib.hid hend
      clear HPL2 hp1 hp2 hlr he hz hpos hp3 hend hpe
      generalize leastV f ys xs = lv at *
      go_wp2_with fail
      refine HPL.out.mono ?_
      rintro e w6 ⟨ra6, rn6, rc6, rfl, _, g6⟩
      have hB6 := hB5.then g6
      clear c0 c1 d0 d1 HPL hB5 g6
      have c0 := hB6.c0
      have c1 := hB6.c1
      have d0 := hB6.d0
      have d1 := hB6.d1
      have h0 := hbd.1
      have h6 := hbd.2
      by_cases hlv : 0 < lv
      · have HPL2 := plan_any ta ca a b tn tc cn cc n c m d f xs ys (lv - 1) w6 (hf.gr hB6.gr) (hx.gr hB6.gr) (hy.gr hB6.gr)
        rw [HP3.out hlv] at HPL2
        have HPL := Lib.hid HPL2
        clear HPL2 HP3
        go_wp2_with fail
        refine HPL.out.mono ?_
        rintro e w7 ⟨ra7, rn7, rc7, rfl, _, g7⟩
        have hB7 := hB6.then g7
        go_wp2_with fail
        refine (HLOOK.out _).mono ?_
        rintro e w8 ⟨rfl, g8⟩
        go_wp2_with fail
        go_ret
        exact ⟨rfl, hB7.gr.trans g8⟩
      · have hxy : xs = ys := Classical.byContradiction fun hne => hlv (HPOS.out hne)
        have hsi := sameInts_any a b n c m d xs ys w6 (hx.gr hB6.gr) (hy.gr hB6.gr)
        rw [decide_eq_true hxy] at hsi
        have HSI := Lib.hid hsi
        clear hsi hxy HP3
        go_wp2_with fail
        refine HSI.out.mono ?_
        rintro e w7 ⟨rfl, k, rfl⟩
        go_wp2_with fail
        refine (HLOOK.out _).mono ?_
        rintro e w8 ⟨rfl, g8⟩
        go_wp2_with fail
        go_ret
        exact ⟨rfl, (hB6.gr.drewNR k).trans g8⟩
    · have hp : planE f xs ys 1000000 = leastE f xs ys := by rw [hpe.out, if_neg he]
      have heb : (leastE f xs ys != 0) = true := by simp [he]
      rw [hp]
      clear hp he hpe
      have hself : (leastE f xs ys == leastE f xs ys) = true := by simp
      go_wp2_with fail
      refine (HLOOK.out _).mono ?_
      rintro e w6 ⟨rfl, g6⟩
      go_wp2_with fail
      go_ret
      exact ⟨rfl, hB5.gr.trans g6⟩
end Go.Proofs.Ytlilojpnhmfnaaa
