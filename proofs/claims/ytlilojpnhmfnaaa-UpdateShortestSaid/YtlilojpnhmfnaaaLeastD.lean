/- Contract: Least. -/
import Derived.Test.YtlilojpnhmfnaaaLeastC
namespace Go.Proofs.Ytlilojpnhmfnaaa
open Go.RowKit

def leastE (f : Fl) (a b : List Int) : Int := if statesE f [a, b] = 0 then (if worksB f a && worksB f b then (if aboveV b a then 0 else 112) else 111) else statesE f [a, b]
def leastR (f : Fl) (a b : List Int) : Int := if leastE f a b = 0 then leastV f b a else 0

def LeastPost (w : World) (v code : Int) (e : Ending) (w' : World) : Prop := e = .returned (.tuple #[.int .i64 v, .int .i64 code]) ∧ Gr w w'

theorem statesE_ok2 {f : Fl} {a b : List Int} (hz : statesE f [a, b] = 0) : FlOk f ∧ StOk f a ∧ StOk f b := by
  obtain ⟨hchk, hsts⟩ := statesE_zero hz
  exact ⟨chkB_ok hchk, stB_ok (stsB_two hsts).1, stB_ok (stsB_two hsts).2⟩

/-- the boxes of Least, and of its first call -/
structure LB (w w3 : World) (va vb vc vd : Value) : Prop where
  gr : Gr w w3
  c0 : w3.cell? ⟨w.heap.size, 0, none⟩ = some va
  c1 : w3.cell? ⟨w.heap.size, 1, none⟩ = some vb
  t0 : w3.cell? ⟨w.heap.size + 1, 0, none⟩ = some vd
  d0 : w3.cell? ⟨w.heap.size + 1 + 1, 0, none⟩ = some vc
  d1 : w3.cell? ⟨w.heap.size + 1 + 1, 1, none⟩ = some vd
  sz : w.heap.size + 1 + 1 < w3.heap.size
theorem lb (w : World) (va vb vc vd : Value) : LB w (((w.alloc (.cells #[va, vb] 25)).alloc (.cells #[vd] 26)).alloc (.cells #[vc, vd] 26)) va vb vc vd := by
  have h := three w #[va, vb] #[vd] #[vc, vd] 25 26 26
  exact ⟨h.gr, h.a 0 _ rfl, h.a 1 _ rfl, h.b 0 _ rfl, h.c 0 _ rfl, h.c 1 _ rfl, by rw [h.sz]; omega⟩

/-- the closure of Least, made -/
theorem least_new {w : World} {b3 b5 : Nat} {ta ca b : Option Addr} {tn tc cn cc n d : Nat} {f : Fl} {ys : List Int} (hf : FlAt w ta tn ca cn f) (hy : Ints w b n ys) (c0 : w.cell? ⟨b3, 0, none⟩ = some (.slice ta tn tc)) (c1 : w.cell? ⟨b3, 1, none⟩ = some (.slice ca cn cc)) (c2 : w.cell? ⟨b5, 0, none⟩ = some (.slice b n d)) :
    LInv ⟨b5, w.heap.size + 1, b3, w.heap.size + 2, w.heap.size, ta, tn, tc, ca, cn, cc, b, d, n, f, ys⟩ (((w.alloc (.map #[] 0)).alloc (.cells #[.map (some w.heap.size)] 86)).alloc (.cells #[.func (.func 56) #[] #[.pointer (some ⟨b5, 0, none⟩), .pointer (some ⟨w.heap.size + 1, 0, none⟩), .pointer (some ⟨b3, 0, none⟩), .pointer (some ⟨w.heap.size + 2, 0, none⟩)]] 87)) := by
  have g := ((Gr.alloc w (.map #[] 0)).allocR (.cells #[.map (some w.heap.size)] 86)).allocR (.cells #[.func (.func 56) #[] #[.pointer (some ⟨b5, 0, none⟩), .pointer (some ⟨w.heap.size + 1, 0, none⟩), .pointer (some ⟨b3, 0, none⟩), .pointer (some ⟨w.heap.size + 2, 0, none⟩)]] 87)
  have g2 := (Gr.alloc (w.alloc (.map #[] 0)) (.cells #[.map (some w.heap.size)] 86)).allocR (.cells #[.func (.func 56) #[] #[.pointer (some ⟨b5, 0, none⟩), .pointer (some ⟨w.heap.size + 1, 0, none⟩), .pointer (some ⟨b3, 0, none⟩), .pointer (some ⟨w.heap.size + 2, 0, none⟩)]] 87)
  have g3 := Gr.alloc ((w.alloc (.map #[] 0)).alloc (.cells #[.map (some w.heap.size)] 86)) (.cells #[.func (.func 56) #[] #[.pointer (some ⟨b5, 0, none⟩), .pointer (some ⟨w.heap.size + 1, 0, none⟩), .pointer (some ⟨b3, 0, none⟩), .pointer (some ⟨w.heap.size + 2, 0, none⟩)]] 87)
  have s1 : w.heap.size + 1 = (w.alloc (.map #[] 0)).heap.size := by simp
  have s2 : w.heap.size + 2 = ((w.alloc (.map #[] 0)).alloc (.cells #[.map (some w.heap.size)] 86)).heap.size := by simp
  refine ⟨(g.cell (lt_cell c0)).trans c0, (g.cell (lt_cell c1)).trans c1, (g.cell (lt_cell c2)).trans c2, ?_, ?_, hf.gr g, hy.gr g, (memo_new w _).mono (g2.below.block _ (by simp)) (fun _ _ h => h)⟩
  · have := cell_new (w := w.alloc (.map #[] 0)) (t := 86) (cs := #[.map (some w.heap.size)]) (j := 0) (v := .map (some w.heap.size)) rfl
    rw [← s1] at this
    exact (g3.cell (by simp)).trans this
  · have := cell_new (w := (w.alloc (.map #[] 0)).alloc (.cells #[.map (some w.heap.size)] 86)) (t := 87) (cs := #[.func (.func 56) #[] #[.pointer (some ⟨b5, 0, none⟩), .pointer (some ⟨w.heap.size + 1, 0, none⟩), .pointer (some ⟨b3, 0, none⟩), .pointer (some ⟨w.heap.size + 2, 0, none⟩)]]) (j := 0) rfl
    rw [← s2] at this
    exact this

set_option maxRecDepth 100000 in
set_option maxHeartbeats 2000000 in
theorem leastF_any (ta ca a b : Option Addr) (tn tc cn cc n c m d : Nat) (f : Fl) (xs ys : List Int) (w : World) (hf : FlAt w ta tn ca cn f) (hx : Ints w a n xs) (hy : Ints w b m ys) :
    Calls Try.prog 20 #[.agg #[.slice ta tn tc, .slice ca cn cc], .slice a n c, .slice b m d] w (LeastPost w (leastR f xs ys) (leastE f xs ys)) := by
  have h3 := lb w (.slice ta tn tc) (.slice ca cn cc) (.slice a n c) (.slice b m d)
  obtain ⟨w3, hw3⟩ : ∃ w3, ((w.alloc (.cells #[.slice ta tn tc, .slice ca cn cc] 25)).alloc (.cells #[.slice b m d] 26)).alloc (.cells #[.slice a n c, .slice b m d] 26) = w3 := ⟨_, rfl⟩
  rw [hw3] at h3
  have hcon := Lib.hid (checkStates_any ta ca _ tn tc cn cc 2 2 f [xs, ys] w3 (hf.gr h3.gr) (rows2 (c := c) (d := d) h3.sz h3.d0 h3.d1 (hx.gr h3.gr) (hy.gr h3.gr)))
  by_cases hb : statesE f [xs, ys] = 0
  · obtain ⟨hok, hsx, hsy⟩ := statesE_ok2 hb
    have hbb : (statesE f [xs, ys] != 0) = false := by simp [hb]
    obtain rfl : n = m := by rw [← hx.len, ← hy.len, hsx.len, hsy.len]
    have HLE : Hid (leastE f xs ys = if worksB f xs && worksB f ys then (if aboveV ys xs then 0 else 112) else 111) := Lib.hid (by unfold leastE; rw [if_pos hb])
    have HLR : Hid (leastR f xs ys = if leastE f xs ys = 0 then leastV f ys xs else 0) := Lib.hid rfl
    have hnt : n = f.times.length := by rw [← hsx.len, hx.len]
    have HNT := Lib.hid hnt
    clear hb hnt
    have c0 := h3.c0
    have c1 := h3.c1
    have t0 := h3.t0
    go_enter Try.func20, Try.ntmps20
    go_wp2_with fail
    refine hcon.out.mono ?_
    rintro e w4 ⟨rfl, g4⟩
    clear hw3
    have G4 := h3.gr.trans g4
    have c04 := (g4.cell (lt_cell c0)).trans c0
    have c14 := (g4.cell (lt_cell c1)).trans c1
    have t04 := (g4.cell (lt_cell t0)).trans t0
    clear c0 c1 t0
    have HW := Lib.hid (works_any ta ca a tn tc cn cc n c f xs w4 (hf.gr G4) hok (hx.gr G4) hsx)
    go_wp2_with fail
    refine HW.out.mono ?_
    rintro e w5 ⟨rfl, g5⟩
    have G5 := G4.trans g5
    have c05 := (g5.cell (lt_cell c04)).trans c04
    have c15 := (g5.cell (lt_cell c14)).trans c14
    have t05 := (g5.cell (lt_cell t04)).trans t04
    clear c04 c14 t04 HW
    cases hwx : worksB f xs with
    | false =>
      have HP : Hid (leastE f xs ys = 111 ∧ leastR f xs ys = 0) := Lib.hid (by
        have h1 : leastE f xs ys = 111 := by rw [HLE.out, hwx]; rfl
        exact ⟨h1, by rw [HLR.out, h1]; rfl⟩)
      go_wp2_with fail
      go_ret2
      exact ⟨by rw [HP.out.1, HP.out.2]; rfl, G5⟩
    | true =>
      have HW2 := Lib.hid (works_any ta ca b tn tc cn cc n d f ys w5 (hf.gr G5) hok (hy.gr G5) hsy)
      go_wp2_with fail
      refine HW2.out.mono ?_
      rintro e w6 ⟨rfl, g6⟩
      have G6 := G5.trans g6
      have c06 := (g6.cell (lt_cell c05)).trans c05
      have c16 := (g6.cell (lt_cell c15)).trans c15
      have t06 := (g6.cell (lt_cell t05)).trans t05
      clear c05 c15 t05 HW2
      cases hwy : worksB f ys with
      | false =>
        have HP : Hid (leastE f xs ys = 111 ∧ leastR f xs ys = 0) := Lib.hid (by
          have h1 : leastE f xs ys = 111 := by rw [HLE.out, hwx, hwy]; rfl
          exact ⟨h1, by rw [HLR.out, h1]; rfl⟩)
        go_wp2_with fail
        go_ret2
        exact ⟨by rw [HP.out.1, HP.out.2]; rfl, G6⟩
      | true =>
        have HA := Lib.hid (above_any b a n d n c ys xs w6 (hy.gr G6) (hx.gr G6) (Nat.le_refl _))
        go_wp2_with fail
        refine HA.out.mono ?_
        rintro e w7 ⟨rfl, k, rfl⟩
        have g7 := Gr.drewN w6 k
        have G7 := G6.trans g7
        have c07 := (g7.cell (lt_cell c06)).trans c06
        have c17 := (g7.cell (lt_cell c16)).trans c16
        have t07 := (g7.cell (lt_cell t06)).trans t06
        obtain ⟨w7, hw7⟩ : ∃ w7, w6.drewN k = w7 := ⟨_, rfl⟩
        rw [hw7] at G7 c07 c17 t07 ⊢
        clear c06 c16 t06 HA hw7 g7
        cases hab : aboveV ys xs with
        | false =>
          have HP : Hid (leastE f xs ys = 112 ∧ leastR f xs ys = 0) := Lib.hid (by
            have h1 : leastE f xs ys = 112 := by rw [HLE.out, hwx, hwy, hab]; rfl
            exact ⟨h1, by rw [HLR.out, h1]; rfl⟩)
          go_wp2_with fail
          go_ret2
          exact ⟨by rw [HP.out.1, HP.out.2]; rfl, G7⟩
        | true =>
          have HP : Hid (leastE f xs ys = 0 ∧ leastR f xs ys = leastV f ys xs) := Lib.hid (by
            have h1 : leastE f xs ys = 0 := by rw [HLE.out, hwx, hwy, hab]; rfl
            exact ⟨h1, by rw [HLR.out, h1]; rfl⟩)
          have hI := least_new (d := d) (hf.gr G7) (hy.gr G7) c07 c17 t07
          have g8 := ((Gr.alloc w7 (.map #[] 0)).allocR (.cells #[.map (some w7.heap.size)] 86)).allocR (.cells #[.func (.func 56) #[] #[.pointer (some ⟨w.heap.size + 1, 0, none⟩), .pointer (some ⟨w7.heap.size + 1, 0, none⟩), .pointer (some ⟨w.heap.size, 0, none⟩), .pointer (some ⟨w7.heap.size + 2, 0, none⟩)]] 87)
          obtain ⟨w8, hw8⟩ : ∃ w8, ((w7.alloc (.map #[] 0)).alloc (.cells #[.map (some w7.heap.size)] 86)).alloc (.cells #[.func (.func 56) #[] #[.pointer (some ⟨w.heap.size + 1, 0, none⟩), .pointer (some ⟨w7.heap.size + 1, 0, none⟩), .pointer (some ⟨w.heap.size, 0, none⟩), .pointer (some ⟨w7.heap.size + 2, 0, none⟩)]] 87) = w8 := ⟨_, rfl⟩
          rw [hw8] at hI g8
          have G8 := G7.trans g8
          have HBE := Lib.hid (least_any _ ⟨hok, hsy, HNT.out⟩ (gap xs ys) xs w8 a c (Nat.le_refl _) hsx hab hI (hx.gr G8))
          have hmm := @run_makeMap Try.prog
          have hc4 := hI.c4
          have h7 := G7.size
          go_wp2_with fail
          refine HBE.out.mono ?_
          rintro e w9 ⟨rfl, hI9, hO9⟩
          clear hw8
          go_wp2_with fail
          go_ret2
          have hGW : Gr w w9 := ((G8.only _).trans hO9).gr (fun i hi e => by omega)
          exact ⟨by rw [HP.out.1, HP.out.2]; rfl, hGW⟩
  · have hbb : (statesE f [xs, ys] != 0) = true := by simp [hb]
    have HP : Hid (leastE f xs ys = statesE f [xs, ys] ∧ leastR f xs ys = 0) := Lib.hid (by
      have h1 : leastE f xs ys = statesE f [xs, ys] := by unfold leastE; rw [if_neg hb]
      exact ⟨h1, by unfold leastR; rw [h1, if_neg hb]⟩)
    clear hb
    go_enter Try.func20, Try.ntmps20
    go_wp2_with fail
    refine hcon.out.mono ?_
    rintro e w4 ⟨rfl, g4⟩
    go_wp2_with fail
    go_ret2
    exact ⟨by rw [HP.out.1, HP.out.2]; rfl, h3.gr.trans g4⟩
end Go.Proofs.Ytlilojpnhmfnaaa
