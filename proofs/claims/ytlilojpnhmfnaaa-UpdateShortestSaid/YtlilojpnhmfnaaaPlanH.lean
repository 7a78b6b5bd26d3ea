/- Contract: Plan. -/
import Derived.Test.YtlilojpnhmfnaaaOut
namespace Go.Proofs.Ytlilojpnhmfnaaa
open Go.RowKit

def PlanPost (w : World) (L : List (List Int)) (code : Int) (e : Ending) (w' : World) : Prop := ∃ ra rn rc, e = .returned (.tuple #[.slice ra rn rc, .int .i64 code]) ∧ RowsAt w' ra rn L ∧ Gr w w'

theorem RowsAt.nil (w : World) : RowsAt w none 0 [] := ⟨rfl, by omega, fun j hj => by omega⟩

/-- the two boxes ahead of begin -/
structure PB (w w2 : World) (va vb vc vd : Value) : Prop where
  gr : Gr w w2
  c0 : w2.cell? ⟨w.heap.size, 0, none⟩ = some va
  c1 : w2.cell? ⟨w.heap.size, 1, none⟩ = some vb
  d0 : w2.cell? ⟨w.heap.size + 1, 0, none⟩ = some vc
  d1 : w2.cell? ⟨w.heap.size + 1, 1, none⟩ = some vd
  sz : w.heap.size + 1 < w2.heap.size
theorem pb (w : World) (va vb vc vd : Value) : PB w ((w.alloc (.cells #[va, vb] 25)).alloc (.cells #[vc, vd] 26)) va vb vc vd := by
  have s1 : (w.alloc (.cells #[va, vb] 25)).heap.size = w.heap.size + 1 := by simp
  have g := Gr.alloc (w.alloc (.cells #[va, vb] 25)) (.cells #[vc, vd] 26)
  refine ⟨(Gr.alloc _ _).allocR _, (g.cell (by simp)).trans (cell_new rfl), (g.cell (by simp)).trans (cell_new rfl), ?_, ?_, by simp⟩
  · rw [← s1]; exact cell_new rfl
  · rw [← s1]; exact cell_new rfl

/-- the loop of Plan: what holds at its head -/
structure PlanR (q : PP) (W1 : World) (from_ : List Int) (cur : List Int) (done : List (List Int)) (sv v : Value) (wr : World) : Prop where
  on : Only (fun b => b = q.m ∨ W1.heap.size ≤ b) W1 wr
  memo : Memo wr q.m (fun s v => s.length = q.n ∧ RestV (fun _ => False) wr v (bestV q.f q.to q.bu s))
  out : OutR wr W1.heap.size v done
  sa : ∃ a c, sv = .slice a q.n c ∧ Ints wr a q.n cur ∧ ∀ ad, a = some ad → ad.block < W1.heap.size ∨ Is3 wr ad.block
  st : StOk q.f cur
  is : (bestV q.f q.to q.bu cur).is = true
  tot : done ++ pathV q.f q.to q.bu cur = pathV q.f q.to q.bu from_

theorem PlanR.inv {q : PP} {W1 wr : World} {fr cur : List Int} {done : List (List Int)} {sv v : Value} (h : PlanR q W1 fr cur done sv v wr) (hI : PInv q (fun _ => False) W1) : PInv q (fun _ => False) wr := hI.of h.on hI.nocS h.memo

theorem PlanR.gr {q : PP} {W1 wr w' : World} {fr cur : List Int} {done : List (List Int)} {sv v : Value} (h : PlanR q W1 fr cur done sv v wr) (g : Gr wr w') : PlanR q W1 fr cur done sv v w' := by
  refine ⟨h.on.thenGr g, h.memo.mono (g.below.block _ h.memo.lt) (fun s v hv => ⟨hv.1, hv.2.gr g⟩), h.out.gr g, ?_, h.st, h.is, h.tot⟩
  obtain ⟨a, c, h1, h2, h3⟩ := h.sa
  exact ⟨a, c, h1, h2.gr g, fun ad e => by
    rcases h3 ad e with h | h
    · exact .inl h
    · exact .inr (h.gr g)⟩

theorem beginE_ok {f : Fl} {bu : Int} {a b : List Int} (h : beginE f bu [a, b] = 0) : FlOk f ∧ StOk f a ∧ StOk f b := by
  have hz : statesE f [a, b] = 0 := by
    unfold beginE at h
    by_cases hz : statesE f [a, b] = 0
    · exact hz
    · rw [if_neg hz] at h; exact absurd h hz
  obtain ⟨hchk, hsts⟩ := statesE_zero hz
  exact ⟨chkB_ok hchk, stB_ok (stsB_two hsts).1, stB_ok (stsB_two hsts).2⟩

set_option maxHeartbeats 1000000 in
theorem plan_bad (ta ca a b : Option Addr) (tn tc cn cc n c m d : Nat) (f : Fl) (xs ys : List Int) (bu : Int) (w : World) (hf : FlAt w ta tn ca cn f) (hx : Ints w a n xs) (hy : Ints w b m ys) (he : ¬ plannedE f xs ys bu = 0) :
    Calls Try.prog 17 #[.agg #[.slice ta tn tc, .slice ca cn cc], .slice a n c, .slice b m d, .int .i64 bu] w (PlanPost w [] (plannedE f xs ys bu)) := by
  have h2 := pb w (.slice ta tn tc) (.slice ca cn cc) (.slice a n c) (.slice b m d)
  obtain ⟨w2, hw2⟩ : ∃ w2, (w.alloc (.cells #[.slice ta tn tc, .slice ca cn cc] 25)).alloc (.cells #[.slice a n c, .slice b m d] 26) = w2 := ⟨_, rfl⟩
  rw [hw2] at h2
  have hcon := Lib.hid (begin_any ta ca _ tn tc cn cc 2 2 f bu [xs, ys] w2 (hf.gr h2.gr) (rows2 (c := c) (d := d) h2.sz h2.d0 h2.d1 (hx.gr h2.gr) (hy.gr h2.gr)))
  by_cases hb : beginE f bu [xs, ys] = 0
  · obtain ⟨hok, hsx, hsy⟩ := beginE_ok hb
    have hbb : (beginE f bu [xs, ys] != 0) = false := by simp [hb]
    have HP : Hid (plannedE f xs ys bu = 111) := Lib.hid (by
      unfold plannedE at he ⊢
      rw [if_pos hb] at he ⊢
      split at he
      · exact absurd rfl he
      · rename_i h; rw [if_neg h])
    have hw12 : (worksB f xs && worksB f ys) = false := by
      cases h : (worksB f xs && worksB f ys) with
      | false => rfl
      | true => exact absurd (by unfold plannedE; rw [if_pos hb, h]; rfl) he
    have HB := Lib.hid hb
    clear hb he
    have c0 := h2.c0
    have c1 := h2.c1
    go_enter Try.func17, Try.ntmps17
    go_wp2_with fail
    refine hcon.out.mono ?_
    rintro e w3 ⟨rfl, g3⟩
    clear hw2
    have G3 := h2.gr.trans g3
    have e0 := (g3.cell (lt_cell c0)).trans c0
    have e1 := (g3.cell (lt_cell c1)).trans c1
    have HW := Lib.hid (works_any ta ca a tn tc cn cc n c f xs w3 (hf.gr G3) hok (hx.gr G3) hsx)
    go_wp2_with fail
    refine HW.out.mono ?_
    rintro e w4 ⟨rfl, g4⟩
    have e0' := (g4.cell (lt_cell e0)).trans e0
    have e1' := (g4.cell (lt_cell e1)).trans e1
    cases hwx : worksB f xs with
    | false =>
      go_wp2_with fail
      go_ret2
      exact ⟨none, 0, 0, by rw [HP.out]; rfl, RowsAt.nil _, G3.trans g4⟩
    | true =>
      have hwy : worksB f ys = false := by rw [hwx] at hw12; simpa using hw12
      have HW2 := Lib.hid (works_any ta ca b tn tc cn cc m d f ys w4 (hf.gr (G3.trans g4)) hok (hy.gr (G3.trans g4)) hsy)
      go_wp2_with fail
      refine HW2.out.mono ?_
      rintro e w5 ⟨rfl, g5⟩
      rw [hwy]
      go_wp2_with fail
      go_ret2
      exact ⟨none, 0, 0, by rw [HP.out]; rfl, RowsAt.nil _, (G3.trans g4).trans g5⟩
  · have hbb : (beginE f bu [xs, ys] != 0) = true := by simp [hb]
    have HP : Hid (plannedE f xs ys bu = beginE f bu [xs, ys]) := Lib.hid (by unfold plannedE; rw [if_neg hb])
    clear hb he
    go_enter Try.func17, Try.ntmps17
    go_wp2_with fail
    refine hcon.out.mono ?_
    rintro e w3 ⟨rfl, g3⟩
    go_wp2_with fail
    go_ret2
    exact ⟨none, 0, 0, by rw [HP.out]; rfl, RowsAt.nil _, h2.gr.trans g3⟩
end Go.Proofs.Ytlilojpnhmfnaaa
