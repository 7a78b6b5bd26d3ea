/- The look at the example: works returns true. -/
import Derived.Test.YtlilojpnhmfnaaaEx2
namespace Go.Proofs.Ytlilojpnhmfnaaa
open Go.RowKit

/-- two new states -/
structure TwoSt (w w' : World) (xs ys : List Int) : Prop where
  gr : Gr w w'
  a : Ints w' (some ⟨w.heap.size, 0, none⟩) 3 xs
  b : Ints w' (some ⟨w.heap.size + 1, 0, none⟩) 3 ys
theorem twoSt (w : World) (x0 x1 x2 y0 y1 y2 : Int) : TwoSt w ((w.alloc (.cells #[.int .i64 x0, .int .i64 x1, .int .i64 x2] 3)).alloc (.cells #[.int .i64 y0, .int .i64 y1, .int .i64 y2] 3)) [x0, x1, x2] [y0, y1, y2] := by
  refine ⟨(Gr.alloc _ _).allocR _, ints_at (xs := [x0, x1, x2]) (t := 3) (fr := (0, 0)) ?_ (by simp), ints_at (xs := [y0, y1, y2]) (t := 3) (fr := (0, 0)) ?_ (by simp)⟩
  · simp only [heap_alloc_at, World.size_alloc]; simp
  · simp only [heap_alloc_at, World.size_alloc]; simp
/-- three new states in a list -/
theorem threeSt (w : World) (x0 x1 x2 y0 y1 y2 z0 z1 z2 : Int) :
    RowsAt ((((w.alloc (.cells #[.int .i64 x0, .int .i64 x1, .int .i64 x2] 3)).alloc (.cells #[.int .i64 y0, .int .i64 y1, .int .i64 y2] 3)).alloc (.cells #[.int .i64 z0, .int .i64 z1, .int .i64 z2] 3)).alloc
      (.cells #[.slice (some ⟨w.heap.size, 0, none⟩) 3 3, .slice (some ⟨w.heap.size + 1, 0, none⟩) 3 3, .slice (some ⟨w.heap.size + 1 + 1, 0, none⟩) 3 3] 26)) (some ⟨w.heap.size + 1 + 1 + 1, 0, none⟩) 3 [[x0, x1, x2], [y0, y1, y2], [z0, z1, z2]] := by
  refine rows3 (a1 := some ⟨w.heap.size, 0, none⟩) (a2 := some ⟨w.heap.size + 1, 0, none⟩) (a3 := some ⟨w.heap.size + 1 + 1, 0, none⟩) (n1 := 3) (n2 := 3) (n3 := 3) (c1 := 3) (c2 := 3) (c3 := 3) (t := 26) (fr := (0, 0)) ?_ (ints_at (xs := [x0, x1, x2]) (t := 3) (fr := (0, 0)) ?_ (by simp)) (ints_at (xs := [y0, y1, y2]) (t := 3) (fr := (0, 0)) ?_ (by simp)) (ints_at (xs := [z0, z1, z2]) (t := 3) (fr := (0, 0)) ?_ (by simp)) <;>
    simp only [heap_alloc_at, World.size_alloc]
  · simp
  · rw [if_neg (by omega), if_neg (by omega), if_neg (by omega), if_pos trivial]; rfl
  · rw [if_neg (by omega), if_neg (by omega), if_pos trivial]; rfl
  · rw [if_neg (by omega), if_pos trivial]; rfl

set_option maxHeartbeats 1000000 in
theorem look_any (w : World) : Calls Try.prog 16 #[] w fun e w' => e = .returned (.bool true) ∧ Gr w w' := by
  have HE := Lib.hid example_any
  go_enter Try.func16, Try.ntmps16
  go_wp2_with fail
  refine (HE.out w).mono ?_
  rintro e w1 ⟨ta, tc, ca, cc, rfl, hf1, g1⟩
  have h2 := twoSt w1 0 0 0 2 1 1
  obtain ⟨w2, hw2⟩ : ∃ w2, (w1.alloc (.cells #[.int .i64 0, .int .i64 0, .int .i64 0] 3)).alloc (.cells #[.int .i64 2, .int .i64 1, .int .i64 1] 3) = w2 := ⟨_, rfl⟩
  rw [hw2] at h2
  have hp := plan_any ta ca (some ⟨w1.heap.size, 0, none⟩) (some ⟨w1.heap.size + 1, 0, none⟩) 3 tc 2 cc 3 3 3 3 exF [0, 0, 0] [2, 1, 1] 8 w2 (hf1.gr h2.gr) h2.a h2.b
  rw [ex_plan, ex_planE] at hp
  have HP := Lib.hid hp
  clear hp
  go_wp2_with fail
  refine HP.out.mono ?_
  rintro e w3 ⟨ra, rn, rc, rfl, hr3, g3⟩
  clear hw2 HP
  have G3 := (g1.trans h2.gr).trans g3
  clear h2 hf1 g1 g3
  go_wp2_with fail
  refine (HE.out w3).mono ?_
  rintro e w4 ⟨ta4, tc4, ca4, cc4, rfl, hf4, g4⟩
  have h5 := twoSt w4 0 0 0 2 1 1
  obtain ⟨w5, hw5⟩ : ∃ w5, (w4.alloc (.cells #[.int .i64 0, .int .i64 0, .int .i64 0] 3)).alloc (.cells #[.int .i64 2, .int .i64 1, .int .i64 1] 3) = w5 := ⟨_, rfl⟩
  rw [hw5] at h5
  have hl := leastF_any ta4 ca4 (some ⟨w4.heap.size, 0, none⟩) (some ⟨w4.heap.size + 1, 0, none⟩) 3 tc4 2 cc4 3 3 3 3 exF [0, 0, 0] [2, 1, 1] w5 (hf4.gr h5.gr) h5.a h5.b
  rw [ex_least, ex_leastE] at hl
  have HL := Lib.hid hl
  clear hl
  go_wp2_with fail
  refine HL.out.mono ?_
  rintro e w6 ⟨rfl, g6⟩
  clear hw5 HL
  have G36 := (g4.trans h5.gr).trans g6
  have hr6 := hr3.gr G36
  have G6 := G3.trans G36
  clear h5 hf4 g4 g6 hr3 G3 G36 HE
  have h7 := threeSt w6 0 0 1 0 1 1 2 1 1
  have g7 := (((Gr.alloc w6 (.cells #[.int .i64 0, .int .i64 0, .int .i64 1] 3)).allocR (.cells #[.int .i64 0, .int .i64 1, .int .i64 1] 3)).allocR (.cells #[.int .i64 2, .int .i64 1, .int .i64 1] 3)).allocR (.cells #[.slice (some ⟨w6.heap.size, 0, none⟩) 3 3, .slice (some ⟨w6.heap.size + 1, 0, none⟩) 3 3, .slice (some ⟨w6.heap.size + 1 + 1, 0, none⟩) 3 3] 26)
  obtain ⟨w7, hw7⟩ : ∃ w7, (((w6.alloc (.cells #[.int .i64 0, .int .i64 0, .int .i64 1] 3)).alloc (.cells #[.int .i64 0, .int .i64 1, .int .i64 1] 3)).alloc (.cells #[.int .i64 2, .int .i64 1, .int .i64 1] 3)).alloc (.cells #[.slice (some ⟨w6.heap.size, 0, none⟩) 3 3, .slice (some ⟨w6.heap.size + 1, 0, none⟩) 3 3, .slice (some ⟨w6.heap.size + 1 + 1, 0, none⟩) 3 3] 26) = w7 := ⟨_, rfl⟩
  rw [hw7] at h7 g7
  have hs := sameStates_any ra (some ⟨w6.heap.size + 1 + 1 + 1, 0, none⟩) rn rc 3 3 _ _ w7 (hr6.gr g7) h7
  rw [decide_eq_true rfl] at hs
  have HS := Lib.hid hs
  clear hs
  go_wp2_with fail
  refine HS.out.mono ?_
  rintro e w8 ⟨rfl, g8⟩
  clear hw7
  go_wp2_with fail
  go_ret
  exact ⟨rfl, (G6.trans g7).trans g8⟩
end Go.Proofs.Ytlilojpnhmfnaaa
