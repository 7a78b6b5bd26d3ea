/- Several texts of this claim in one file. (1) Contract: Least. (2) Plain law: a plan within a budget exists exactly if the least budget is not greater. No program in sight. (3) The example of the chapter: what Plan and Least return there; sameStates, Example and works. (4) The example: Example and works. (5) The look at the example: works returns true. (6) CheckPlan: plain words, and the list of a state and a plan. (7) Plain law: the planner's way is a plan, and no plan is shorter. No program in sight. (8) Contract: timesOf, at a plan that holds. (9) Contract: CheckPlan. (10) Plain law: what UpdateShortest asks of the planner's way and of any other plan. No program in sight. (11) Lists that a call collects: one more state, a copy of a state. Plain words for Interrupt and Back. (12) A list of numbers that a call collects. Nothing of the program is proved here. (13) A walk by lemmas: plain regions, one operation after the other, so that new blocks have names. Nothing of the program is proved here. -/
import Derived.Test.YtlilojpnhmfnaaaBd5
import Derived.Deep.Upon
import Derived.Deep.Slices
import Derived.Test.YtlilojpnhmfnaaaBd3
namespace Go.Proofs.Ytlilojpnhmfnaaa
section
open Go.RowKit

def leastE (f : Fl) (a b : List Int) : Int := if statesE f [a, b] = 0 then (if worksB f a && worksB f b then (if aboveV b a then 0 else 112) else 111) else statesE f [a, b]
def leastR (f : Fl) (a b : List Int) : Int := if leastE f a b = 0 then leastV f b a else 0

def LeastPost (w : World) (v code : Int) (e : Ending) (w' : World) : Prop := e = .returned (.tuple #[.int .i64 v, .int .i64 code]) ∧ Gr w w'

theorem statesE_ok2 {f : Fl} {a b : List Int} (hz : statesE f [a, b] = 0) : FlOk f ∧ StOk f a ∧ StOk f b := by
  obtain ⟨hchk, hsts⟩ := statesE_zero hz
  exact ⟨chkB_ok hchk, stB_ok (stsB_two hsts).1, stB_ok (stsB_two hsts).2⟩

/-- the boxes of Least, and of its first call -/
structure LB (w w3 : World) (va vb vc vd : Value) : Prop where
  gr : Gr w w3
  c0 : w3.cell? ⟨w.heap.size, 0, none⟩ = some va
  c1 : w3.cell? ⟨w.heap.size, 1, none⟩ = some vb
  t0 : w3.cell? ⟨w.heap.size + 1, 0, none⟩ = some vd
  d0 : w3.cell? ⟨w.heap.size + 1 + 1, 0, none⟩ = some vc
  d1 : w3.cell? ⟨w.heap.size + 1 + 1, 1, none⟩ = some vd
  sz : w.heap.size + 1 + 1 < w3.heap.size
theorem lb (w : World) (va vb vc vd : Value) : LB w (((w.alloc (.cells #[va, vb] 25)).alloc (.cells #[vd] 26)).alloc (.cells #[vc, vd] 26)) va vb vc vd := by
  have h := three w #[va, vb] #[vd] #[vc, vd] 25 26 26
  exact ⟨h.gr, h.a 0 _ rfl, h.a 1 _ rfl, h.b 0 _ rfl, h.c 0 _ rfl, h.c 1 _ rfl, by rw [h.sz]; omega⟩

/-- the closure of Least, made -/
theorem least_new {w : World} {b3 b5 : Nat} {ta ca b : Option Addr} {tn tc cn cc n d : Nat} {f : Fl} {ys : List Int} (hf : FlAt w ta tn ca cn f) (hy : Ints w b n ys) (c0 : w.cell? ⟨b3, 0, none⟩ = some (.slice ta tn tc)) (c1 : w.cell? ⟨b3, 1, none⟩ = some (.slice ca cn cc)) (c2 : w.cell? ⟨b5, 0, none⟩ = some (.slice b n d)) :
    LInv ⟨b5, w.heap.size + 1, b3, w.heap.size + 2, w.heap.size, ta, tn, tc, ca, cn, cc, b, d, n, f, ys⟩ (((w.alloc (.map #[] 0)).alloc (.cells #[.map (some w.heap.size)] 86)).alloc (.cells #[.func (.func 56) #[] #[.pointer (some ⟨b5, 0, none⟩), .pointer (some ⟨w.heap.size + 1, 0, none⟩), .pointer (some ⟨b3, 0, none⟩), .pointer (some ⟨w.heap.size + 2, 0, none⟩)]] 87)) := by
  have g := ((Gr.alloc w (.map #[] 0)).allocR (.cells #[.map (some w.heap.size)] 86)).allocR (.cells #[.func (.func 56) #[] #[.pointer (some ⟨b5, 0, none⟩), .pointer (some ⟨w.heap.size + 1, 0, none⟩), .pointer (some ⟨b3, 0, none⟩), .pointer (some ⟨w.heap.size + 2, 0, none⟩)]] 87)
  have g2 := (Gr.alloc (w.alloc (.map #[] 0)) (.cells #[.map (some w.heap.size)] 86)).allocR (.cells #[.func (.func 56) #[] #[.pointer (some ⟨b5, 0, none⟩), .pointer (some ⟨w.heap.size + 1, 0, none⟩), .pointer (some ⟨b3, 0, none⟩), .pointer (some ⟨w.heap.size + 2, 0, none⟩)]] 87)
  have g3 := Gr.alloc ((w.alloc (.map #[] 0)).alloc (.cells #[.map (some w.heap.size)] 86)) (.cells #[.func (.func 56) #[] #[.pointer (some ⟨b5, 0, none⟩), .pointer (some ⟨w.heap.size + 1, 0, none⟩), .pointer (some ⟨b3, 0, none⟩), .pointer (some ⟨w.heap.size + 2, 0, none⟩)]] 87)
  have s1 : w.heap.size + 1 = (w.alloc (.map #[] 0)).heap.size := by simp
  have s2 : w.heap.size + 2 = ((w.alloc (.map #[] 0)).alloc (.cells #[.map (some w.heap.size)] 86)).heap.size := by simp
  refine ⟨(g.cell (lt_cell c0)).trans c0, (g.cell (lt_cell c1)).trans c1, (g.cell (lt_cell c2)).trans c2, ?_, ?_, hf.gr g, hy.gr g, (memo_new w _).mono (g2.below.block _ (by simp)) (fun _ _ h => h)⟩
  · have := cell_new (w := w.alloc (.map #[] 0)) (t := 86) (cs := #[.map (some w.heap.size)]) (j := 0) (v := .map (some w.heap.size)) rfl
    rw [← s1] at this
    exact (g3.cell (by simp)).trans this
  · have := cell_new (w := (w.alloc (.map #[] 0)).alloc (.cells #[.map (some w.heap.size)] 86)) (t := 87) (cs := #[.func (.func 56) #[] #[.pointer (some ⟨b5, 0, none⟩), .pointer (some ⟨w.heap.size + 1, 0, none⟩), .pointer (some ⟨b3, 0, none⟩), .pointer (some ⟨w.heap.size + 2, 0, none⟩)]]) (j := 0) rfl
    rw [← s2] at this
    exact this

set_option maxRecDepth 100000 in
set_option maxHeartbeats 2000000 in
theorem leastF_any (ta ca a b : Option Addr) (tn tc cn cc n c m d : Nat) (f : Fl) (xs ys : List Int) (w : World) (hf : FlAt w ta tn ca cn f) (hx : Ints w a n xs) (hy : Ints w b m ys) :
    Calls Try.prog 20 #[.agg #[.slice ta tn tc, .slice ca cn cc], .slice a n c, .slice b m d] w (LeastPost w (leastR f xs ys) (leastE f xs ys)) := by
  have h3 := lb w (.slice ta tn tc) (.slice ca cn cc) (.slice a n c) (.slice b m d)
  obtain ⟨w3, hw3⟩ : ∃ w3, ((w.alloc (.cells #[.slice ta tn tc, .slice ca cn cc] 25)).alloc (.cells #[.slice b m d] 26)).alloc (.cells #[.slice a n c, .slice b m d] 26) = w3 := ⟨_, rfl⟩
  rw [hw3] at h3
  have hcon := Lib.hid (checkStates_any ta ca _ tn tc cn cc 2 2 f [xs, ys] w3 (hf.gr h3.gr) (rows2 (c := c) (d := d) h3.sz h3.d0 h3.d1 (hx.gr h3.gr) (hy.gr h3.gr)))
  by_cases hb : statesE f [xs, ys] = 0
  · obtain ⟨hok, hsx, hsy⟩ := statesE_ok2 hb
    have hbb : (statesE f [xs, ys] != 0) = false := by simp [hb]
    obtain rfl : n = m := by rw [← hx.len, ← hy.len, hsx.len, hsy.len]
    have HLE : Hid (leastE f xs ys = if worksB f xs && worksB f ys then (if aboveV ys xs then 0 else 112) else 111) := Lib.hid (by unfold leastE; rw [if_pos hb])
    have HLR : Hid (leastR f xs ys = if leastE f xs ys = 0 then leastV f ys xs else 0) := Lib.hid rfl
    have hnt : n = f.times.length := by rw [← hsx.len, hx.len]
    have HNT := Lib.hid hnt
    clear hb hnt
    have c0 := h3.c0
    have c1 := h3.c1
    have t0 := h3.t0
    go_enter Try.func20, Try.ntmps20
    go_wp2_with fail
    refine hcon.out.mono ?_
    rintro e w4 ⟨rfl, g4⟩
    clear hw3
    have G4 := h3.gr.trans g4
    have c04 := (g4.cell (lt_cell c0)).trans c0
    have c14 := (g4.cell (lt_cell c1)).trans c1
    have t04 := (g4.cell (lt_cell t0)).trans t0
    clear c0 c1 t0
    have HW := Lib.hid (works_any ta ca a tn tc cn cc n c f xs w4 (hf.gr G4) hok (hx.gr G4) hsx)
    go_wp2_with fail
    refine HW.out.mono ?_
    rintro e w5 ⟨rfl, g5⟩
    have G5 := G4.trans g5
    have c05 := (g5.cell (lt_cell c04)).trans c04
    have c15 := (g5.cell (lt_cell c14)).trans c14
    have t05 := (g5.cell (lt_cell t04)).trans t04
    clear c04 c14 t04 HW
    cases hwx : worksB f xs with
    | false =>
      have HP : Hid (leastE f xs ys = 111 ∧ leastR f xs ys = 0) := Lib.hid (by
        have h1 : leastE f xs ys = 111 := by rw [HLE.out, hwx]; rfl
        exact ⟨h1, by rw [HLR.out, h1]; rfl⟩)
      go_wp2_with fail
      go_ret2
      exact ⟨by rw [HP.out.1, HP.out.2]; rfl, G5⟩
    | true =>
      have HW2 := Lib.hid (works_any ta ca b tn tc cn cc n d f ys w5 (hf.gr G5) hok (hy.gr G5) hsy)
      go_wp2_with fail
      refine HW2.out.mono ?_
      rintro e w6 ⟨rfl, g6⟩
      have G6 := G5.trans g6
      have c06 := (g6.cell (lt_cell c05)).trans c05
      have c16 := (g6.cell (lt_cell c15)).trans c15
      have t06 := (g6.cell (lt_cell t05)).trans t05
      clear c05 c15 t05 HW2
      cases hwy : worksB f ys with
      | false =>
        have HP : Hid (leastE f xs ys = 111 ∧ leastR f xs ys = 0) := Lib.hid (by
          have h1 : leastE f xs ys = 111 := by rw [HLE.out, hwx, hwy]; rfl
          exact ⟨h1, by rw [HLR.out, h1]; rfl⟩)
        go_wp2_with fail
        go_ret2
        exact ⟨by rw [HP.out.1, HP.out.2]; rfl, G6⟩
      | true =>
        have HA := Lib.hid (above_any b a n d n c ys xs w6 (hy.gr G6) (hx.gr G6) (Nat.le_refl _))
        go_wp2_with fail
        refine HA.out.mono ?_
        rintro e w7 ⟨rfl, k, rfl⟩
        have g7 := Gr.drewN w6 k
        have G7 := G6.trans g7
        have c07 := (g7.cell (lt_cell c06)).trans c06
        have c17 := (g7.cell (lt_cell c16)).trans c16
        have t07 := (g7.cell (lt_cell t06)).trans t06
        obtain ⟨w7, hw7⟩ : ∃ w7, w6.drewN k = w7 := ⟨_, rfl⟩
        rw [hw7] at G7 c07 c17 t07 ⊢
        clear c06 c16 t06 HA hw7 g7
        cases hab : aboveV ys xs with
        | false =>
          have HP : Hid (leastE f xs ys = 112 ∧ leastR f xs ys = 0) := Lib.hid (by
            have h1 : leastE f xs ys = 112 := by rw [HLE.out, hwx, hwy, hab]; rfl
            exact ⟨h1, by rw [HLR.out, h1]; rfl⟩)
          go_wp2_with fail
          go_ret2
          exact ⟨by rw [HP.out.1, HP.out.2]; rfl, G7⟩
        | true =>
          have HP : Hid (leastE f xs ys = 0 ∧ leastR f xs ys = leastV f ys xs) := Lib.hid (by
            have h1 : leastE f xs ys = 0 := by rw [HLE.out, hwx, hwy, hab]; rfl
            exact ⟨h1, by rw [HLR.out, h1]; rfl⟩)
          have hI := least_new (d := d) (hf.gr G7) (hy.gr G7) c07 c17 t07
          have g8 := ((Gr.alloc w7 (.map #[] 0)).allocR (.cells #[.map (some w7.heap.size)] 86)).allocR (.cells #[.func (.func 56) #[] #[.pointer (some ⟨w.heap.size + 1, 0, none⟩), .pointer (some ⟨w7.heap.size + 1, 0, none⟩), .pointer (some ⟨w.heap.size, 0, none⟩), .pointer (some ⟨w7.heap.size + 2, 0, none⟩)]] 87)
          obtain ⟨w8, hw8⟩ : ∃ w8, ((w7.alloc (.map #[] 0)).alloc (.cells #[.map (some w7.heap.size)] 86)).alloc (.cells #[.func (.func 56) #[] #[.pointer (some ⟨w.heap.size + 1, 0, none⟩), .pointer (some ⟨w7.heap.size + 1, 0, none⟩), .pointer (some ⟨w.heap.size, 0, none⟩), .pointer (some ⟨w7.heap.size + 2, 0, none⟩)]] 87) = w8 := ⟨_, rfl⟩
          rw [hw8] at hI g8
          have G8 := G7.trans g8
          have HBE := Lib.hid (least_any _ ⟨hok, hsy, HNT.out⟩ (gap xs ys) xs w8 a c (Nat.le_refl _) hsx hab hI (hx.gr G8))
          have hmm := @run_makeMap Try.prog
          have hc4 := hI.c4
          have h7 := G7.size
          go_wp2_with fail
          refine HBE.out.mono ?_
          rintro e w9 ⟨rfl, hI9, hO9⟩
          clear hw8
          go_wp2_with fail
          go_ret2
          have hGW : Gr w w9 := ((G8.only _).trans hO9).gr (fun i hi e => by omega)
          exact ⟨by rw [HP.out.1, HP.out.2]; rfl, hGW⟩
  · have hbb : (statesE f [xs, ys] != 0) = true := by simp [hb]
    have HP : Hid (leastE f xs ys = statesE f [xs, ys] ∧ leastR f xs ys = 0) := Lib.hid (by
      have h1 : leastE f xs ys = statesE f [xs, ys] := by unfold leastE; rw [if_neg hb]
      exact ⟨h1, by unfold leastR; rw [h1, if_neg hb]⟩)
    clear hb
    go_enter Try.func20, Try.ntmps20
    go_wp2_with fail
    refine hcon.out.mono ?_
    rintro e w4 ⟨rfl, g4⟩
    go_wp2_with fail
    go_ret2
    exact ⟨by rw [HP.out.1, HP.out.2]; rfl, h3.gr.trans g4⟩
end
section
theorem enum_mem {f : Fl} {lo hi x : List Int} (hw : worksB f x = true) (hl : x.length = lo.length) : ∀ (k : Nat) (pre : List Int), pre.length + k = lo.length → (∀ c, c < pre.length → pre[c]?.getD 0 = x[c]?.getD 0) → (∀ c, pre.length ≤ c → c < lo.length → lo[c]?.getD 0 ≤ x[c]?.getD 0 ∧ x[c]?.getD 0 ≤ hi[c]?.getD 0) → x ∈ enum f lo hi k pre := by
  intro k
  induction k with
  | zero =>
    intro pre hp hpre _
    have : pre = x := (eqUpto_iff (by omega)).1 (fun j hj => hpre j hj)
    subst this
    simp [enum, hw]
  | succ k ih =>
    intro pre hp hpre hb
    have h1 := hb pre.length (Nat.le_refl _) (by omega)
    simp only [enum, List.mem_flatMap, List.mem_range]
    refine ⟨(x[pre.length]?.getD 0 - lo[pre.length]?.getD 0).toNat, by omega, ih _ (by simp; omega) (fun c hc => ?_) (fun c hc hlt => hb c (by simp at hc; omega) hlt)⟩
    by_cases e : c = pre.length
    · subst e; simp; omega
    · rw [List.getElem?_append_left (by simp at hc; omega)]; exact hpre c (by simp at hc; omega)
theorem enum_has {f : Fl} {lo hi x : List Int} (hw : worksB f x = true) (hb : Btw lo hi x) : x ∈ enum f lo hi lo.length [] :=
  enum_mem hw hb.len lo.length [] (by simp) (fun c hc => by simp at hc) (fun c _ hc => ⟨hb.ge c hc, hb.le c hc⟩)

theorem aboveV_refl (s : List Int) : aboveV s s = true := aboveV_true rfl (fun _ _ => Int.le_refl _)
theorem btw_end {s to : List Int} (hl : s.length = to.length) (ha : aboveV to s = true) : Btw s to to := ⟨hl.symm, fun c hc => aboveV_le ha c (by omega), fun _ _ => Int.le_refl _⟩
theorem Btw.above {lo hi s : List Int} (h : Btw lo hi s) : aboveV s lo = true := aboveV_true rfl (fun j hj => h.ge j (by rw [← h.len]; exact hj))
theorem Btw.below {lo hi s : List Int} (h : Btw lo hi s) (hl : lo.length = hi.length) : aboveV hi s = true := aboveV_true rfl (fun j hj => h.le j (by omega))

theorem dur_pos {f : Fl} {s t : List Int} (hok : FlOk f) (hs : StOk f s) (ht : StOk f t) (ha : aboveV t s = true) (hne : s ≠ t) : 0 < dur f.times s t := by
  have hab := aboveV_le ha
  have hz := durTo_zero_iff hok (fun c hc => (hs.ver c hc).1) ht (fun c hc => hab c (by rw [ht.len]; exact hc)) f.times.length (Nat.le_refl _)
  have hb := dur_bd hok hs ht ha
  have hd : dur f.times s t = durTo f.times s t f.times.length := by unfold dur; rw [ht.len]
  by_cases h0 : dur f.times s t = 0
  · rw [hd] at h0
    have := hz.1 h0
    exact absurd ((eqUpto_iff (by rw [hs.len, ht.len])).1 (fun j hj => (this j (by rw [← hs.len]; exact hj)).symm)) hne
  · omega

/-- when some rest is found -/
theorem fold_some {T : List (List Int)} {bu : Int} {s : List Int} {rec : List Int → Rs} : ∀ (l : List (List Int)) (b : Rs), ((l.foldl (bestStep T bu s rec) b).is = true ↔ b.is = true ∨ ∃ x ∈ l, stepsB T s x bu = true ∧ (rec x).is = true) := by
  intro l
  induction l with
  | nil => intro b; simp
  | cons x l ih =>
    intro b
    rw [List.foldl_cons, ih]
    have hstep : (bestStep T bu s rec b x).is = true ↔ b.is = true ∨ (stepsB T s x bu = true ∧ (rec x).is = true) := by
      unfold bestStep
      cases hs : stepsB T s x bu with
      | false => simp
      | true =>
        cases hr : (rec x).is with
        | false => simp
        | true =>
          cases hb : b.is with
          | false => simp [Rs.via]
          | true => simp; split <;> simp [Rs.via, hb]
    rw [hstep]
    constructor
    · rintro ((h | h) | ⟨y, hy, h⟩)
      · exact .inl h
      · exact .inr ⟨x, by simp, h⟩
      · exact .inr ⟨y, by simp [hy], h⟩
    · rintro (h | ⟨y, hy, h⟩)
      · exact .inl (.inl h)
      · rcases List.mem_cons.1 hy with rfl | hy
        · exact .inl (.inr h)
        · exact .inr ⟨y, hy, h⟩

/-- when the fold of Least is small -/
theorem foldLe_le {T : List (List Int)} {s : List Int} {rec : List Int → Int} {bu : Int} : ∀ (l : List (List Int)) (b : Int), (l.foldl (leastStep T s rec) b ≤ bu ↔ b ≤ bu ∨ ∃ x ∈ l, 0 < dur T s x ∧ dur T s x ≤ bu ∧ rec x ≤ bu) := by
  intro l
  induction l with
  | nil => intro b; simp
  | cons x l ih =>
    intro b
    rw [List.foldl_cons, ih]
    have hstep : leastStep T s rec b x ≤ bu ↔ b ≤ bu ∨ (0 < dur T s x ∧ dur T s x ≤ bu ∧ rec x ≤ bu) := by
      unfold leastStep
      split <;> omega
    rw [hstep]
    constructor
    · rintro ((h | h) | ⟨y, hy, h⟩)
      · exact .inl h
      · exact .inr ⟨x, by simp, h⟩
      · exact .inr ⟨y, by simp [hy], h⟩
    · rintro (h | ⟨y, hy, h⟩)
      · exact .inl (.inl h)
      · rcases List.mem_cons.1 hy with rfl | hy
        · exact .inl (.inr h)
        · exact .inr ⟨y, hy, h⟩

theorem best_iff_least {f : Fl} {to : List Int} {bu : Int} (hok : FlOk f) (hto : StOk f to) (hwto : worksB f to = true) (hbu : 0 ≤ bu) : ∀ (k : Nat) (s : List Int), gap s to ≤ k → StOk f s → aboveV to s = true → ((bestV f to bu s).is = true ↔ leastV f to s ≤ bu) := by
  intro k
  induction k with
  | zero =>
    intro s hk hs ha
    have hl : s.length = to.length := by rw [hs.len, hto.len]
    have := above_gap_zero hl ha (by omega)
    subst this
    rw [bestV_eq rfl, if_pos rfl, leastV_end]
    simp [Rs.fin, hbu]
  | succ k ih =>
    intro s hk hs ha
    have hl : s.length = to.length := by rw [hs.len, hto.len]
    by_cases he : s = to
    · subst he
      rw [bestV_eq rfl, if_pos rfl, leastV_end]
      simp [Rs.fin, hbu]
    · rw [bestV_eq hl, if_neg he, ha, if_pos rfl, leastV_eq hl ha he, fold_some, foldLe_le]
      have hsub : ∀ x, x ∈ enum f s to s.length [] → ((stepsB f.times s x bu = true ∧ (bestV f to bu x).is = true) ↔ (0 < dur f.times s x ∧ dur f.times s x ≤ bu ∧ leastV f to x ≤ bu)) := by
        intro x hx
        have hb := (enum_between hx).1
        have hsx := hs.btw hto hb
        constructor
        · rintro ⟨h1, h2⟩
          obtain ⟨_, hne, hd⟩ := stepsB_true h1
          have hg := gap_lt (hl := hl) hb hne
          exact ⟨dur_pos hok hs hsx hb.above hne, hd, (ih x (by omega) hsx (hb.below hl)).1 h2⟩
        · rintro ⟨h1, h2, h3⟩
          have hne : s ≠ x := fun e => by subst e; rw [dur_self] at h1; omega
          have hg := gap_lt (hl := hl) hb hne
          exact ⟨by simp [stepsB, hb.above, hne, h2], (ih x (by omega) hsx (hb.below hl)).2 h3⟩
      constructor
      · rintro (h | ⟨x, hx, h⟩)
        · simp [Rs.no] at h
        · exact .inr ⟨x, hx, (hsub x hx).1 h⟩
      · rintro (h | ⟨x, hx, h⟩)
        · have hm := enum_has hwto (btw_end hl ha)
          exact .inr ⟨to, hm, (hsub to hm).2 ⟨dur_pos hok hs hto ha he, h, by rw [leastV_end]; exact hbu⟩⟩
        · exact .inr ⟨x, hx, (hsub x hx).2 h⟩

theorem fold_pos {T : List (List Int)} {s : List Int} {rec : List Int → Int} : ∀ (l : List (List Int)) (b : Int), 0 < b → 0 < l.foldl (leastStep T s rec) b := by
  intro l
  induction l with
  | nil => intro b h; exact h
  | cons x l ih =>
    intro b h
    rw [List.foldl_cons]
    refine ih _ ?_
    unfold leastStep
    split <;> omega

theorem leastV_pos {f : Fl} {to s : List Int} (hok : FlOk f) (hs : StOk f s) (hto : StOk f to) (ha : aboveV to s = true) (he : s ≠ to) : 0 < leastV f to s := by
  rw [leastV_eq (by rw [hs.len, hto.len]) ha he]
  exact fold_pos _ _ (dur_pos hok hs hto ha he)
theorem leastV_bd {f : Fl} {to s : List Int} (hok : FlOk f) (hs : StOk f s) (hto : StOk f to) (ha : aboveV to s = true) : 0 ≤ leastV f to s ∧ leastV f to s ≤ 60000 := by
  by_cases he : s = to
  · subst he; rw [leastV_end]; omega
  · refine ⟨Int.le_of_lt (leastV_pos hok hs hto ha he), ?_⟩
    rw [leastV_eq (by rw [hs.len, hto.len]) ha he, foldLe_le]
    exact .inl (dur_bd hok hs hto ha).2

theorem withinB_bu {bu : Int} (h0 : 0 ≤ bu) (h1 : bu ≤ 1000000) : withinB bu 0 1000000 = true := withinB_eq_true ⟨h0, h1⟩

/-- Plan's error at any budget, by Least's -/
theorem planE_of_least {f : Fl} {a b : List Int} {bu : Int} (h0 : 0 ≤ bu) (h1 : bu ≤ 1000000) : planE f a b bu = if leastE f a b = 0 then (if leastV f b a ≤ bu then 0 else 112) else leastE f a b := by
  by_cases hz : statesE f [a, b] = 0
  · obtain ⟨hok, hsa, hsb⟩ := statesE_ok2 hz
    have hbe : beginE f bu [a, b] = 0 := by unfold beginE; rw [if_pos hz, withinB_bu h0 h1]; rfl
    unfold planE plannedE leastE
    rw [if_pos hbe, if_pos hz]
    cases hw : (worksB f a && worksB f b) with
    | false => simp
    | true =>
      have hwb : worksB f b = true := by simp at hw; exact hw.2
      simp only [if_true]
      cases ha : aboveV b a with
      | false =>
        have hne : ¬ a = b := fun e => by subst e; rw [aboveV_refl] at ha; cases ha
        have : (bestV f b bu a).is = false := by rw [bestV_eq (by rw [hsa.len, hsb.len]), if_neg hne, ha]; rfl
        simp [this]
      | true =>
        have hi := best_iff_least hok hsb hwb h0 (gap a b) a (Nat.le_refl _) hsa ha
        by_cases hle : leastV f b a ≤ bu
        · rw [hi.2 hle]; simp [hle]
        · have : (bestV f b bu a).is = false := by
            cases h : (bestV f b bu a).is with
            | false => rfl
            | true => exact absurd (hi.1 h) hle
          simp [this, hle]
  · have hbe : beginE f bu [a, b] = statesE f [a, b] := by unfold beginE; rw [if_neg hz]
    unfold planE plannedE leastE
    simp [hbe, hz]
end
section
open Go.RowKit

def exF : Fl := ⟨[[5, 8], [4], [6]], [⟨0, 1, 1, 0⟩, ⟨0, 2, 2, 0⟩]⟩
theorem ex_plan : planV exF [0, 0, 0] [2, 1, 1] 8 = [[0, 0, 1], [0, 1, 1], [2, 1, 1]] := by kernel_rfl
theorem ex_planE : planE exF [0, 0, 0] [2, 1, 1] 8 = 0 := by kernel_rfl
theorem ex_least : leastR exF [0, 0, 0] [2, 1, 1] = 8 := by kernel_rfl
theorem ex_leastE : leastE exF [0, 0, 0] [2, 1, 1] = 0 := by kernel_rfl

theorem rows_eq {L M : List (List Int)} {n : Nat} (hL : L.length = n) (hM : M.length = n) (h : ∀ j, j < n → L[j]?.getD [] = M[j]?.getD []) : L = M := by
  apply List.ext_getElem?
  intro i
  by_cases hi : i < n
  · have := h i hi
    have h1 : i < L.length := by omega
    have h2 : i < M.length := by omega
    simp [h1, h2] at this ⊢
    exact this
  · rw [List.getElem?_eq_none (by omega), List.getElem?_eq_none (by omega)]

set_option maxHeartbeats 1000000 in
theorem sameStates_any (a b : Option Addr) (n c m d : Nat) (L M : List (List Int)) (w : World) (hL : RowsAt w a n L) (hM : RowsAt w b m M) :
    Calls Try.prog 19 #[.slice a n c, .slice b m d] w fun e w' => e = .returned (.bool (decide (L = M))) ∧ Gr w w' := by
  have hn := hL.lt
  have hm := hM.lt
  by_cases hnm : n = m
  · subst hnm
    have hne : ((n : Int) != (n : Int)) = false := by simp
    have HLn := Lib.hid hL.len
    have HMn := Lib.hid hM.len
    go_enter Try.func19, Try.ntmps19
    go_wp2_with fail
    go_loopw [5] (fun i wr => ∃ k : Nat, k ≤ n ∧ i = .int .i64 k ∧ Gr w wr ∧ Hid (∀ j, j < k → L[j]?.getD [] = M[j]?.getD [])) (fun i _ => n - (intOf i).toNat)
    case atStart => exact ⟨0, Nat.zero_le _, rfl, Gr.refl _, Lib.hid (fun j hj => by omega)⟩
    case round =>
      obtain ⟨k, hk, rfl, hg, hj⟩ := hrel
      by_cases hlt : k < n
      · obtain ⟨ad, a', n', c', rfl, hab, hac, hai⟩ := (hL.gr hg).at hlt
        obtain ⟨bd, b', m', d', rfl, hbb, hbc, hbi⟩ := (hM.gr hg).at hlt
        have hq : ∀ k', Hid (Calls Try.prog 22 #[.slice a' n' c', .slice b' m' d'] (wr.drewN k') fun e w' => e = .returned (.bool (decide (L[k]?.getD [] = M[k]?.getD []))) ∧ ∃ q, w' = (wr.drewN k').drewN q) := fun k' => Lib.hid (sameInts_any a' b' n' c' m' d' _ _ (wr.drewN k') (hai.gr (Gr.drewN _ _)) (hbi.gr (Gr.drewN _ _)))
        have HQ := Lib.hid hq
        clear hq
        go_wp2_with fail
        go_quiet ((go_at_call 22; exact Calls.quiet_of (HQ.out _).out))
        cases he : decide (L[k]?.getD [] = M[k]?.getD []) with
        | true =>
          have he' : L[k]?.getD [] = M[k]?.getD [] := of_decide_eq_true he
          have HE := Lib.hid he'
          clear he he'
          go_wp2_with fail
          go_roundw
          case rel => exact ⟨k + 1, by omega, by go_num, hg.drewNR _, Lib.hid (fun j hj' => by
            by_cases e : j = k
            · subst e; exact HE.out
            · exact hj.out j (by omega))⟩
          case measure => simp [intOf]; omega
        | false =>
          have he' : ¬ L[k]?.getD [] = M[k]?.getD [] := of_decide_eq_false he
          have hne2 : Hid (decide (L = M) = false) := Lib.hid (decide_eq_false (fun e => he' (by rw [e])))
          clear he he'
          go_wp2_with fail
          go_ret
          exact ⟨by rw [hne2.out]; rfl, hg.drewNR _⟩
      · obtain rfl : k = n := by omega
        have heq : Hid (decide (L = M) = true) := Lib.hid (decide_eq_true (rows_eq HLn.out HMn.out hj.out))
        go_wp2_with fail
        go_ret
        exact ⟨by rw [heq.out]; rfl, hg⟩
  · have hne : ((n : Int) != (m : Int)) = true := by simp; omega
    have hne2 : Hid (decide (L = M) = false) := Lib.hid (decide_eq_false (fun e => hnm (by rw [← hL.len, ← hM.len, e])))
    go_enter Try.func19, Try.ntmps19
    go_wp2_with fail
    go_ret
    exact ⟨by rw [hne2.out]; rfl, Gr.refl _⟩
end
section
open Go.RowKit

def ExPost (w : World) (e : Ending) (w' : World) : Prop := ∃ ta tc ca cc, e = .returned (.agg #[.slice ta 3 tc, .slice ca 2 cc]) ∧ FlAt w' ta 3 ca 2 exF ∧ Gr w w'

theorem heap_alloc_at (w : World) (o : Obj) (k : Nat) : (w.alloc o).heap[k]? = if k = w.heap.size then some o else w.heap[k]? := by
  by_cases h : k = w.heap.size
  · subst h; rw [if_pos rfl]; exact World.alloc_heap_new w o
  · rw [if_neg h]
    by_cases h2 : k < w.heap.size
    · exact Below.heap_alloc w o k h2
    · rw [Array.getElem?_eq_none (by simp; omega), Array.getElem?_eq_none (by omega)]
theorem cell_at {w : World} {b j : Nat} {cs : Array Value} {t : TypeId} {fr : Nat × Nat} {v : Value} (h : w.heap[b]? = some (.cells cs t fr)) (hv : cs[j]? = some v) : w.cell? ⟨b, j, none⟩ = some v := by
  unfold World.cell?
  simp only [h]
  exact hv
/-- a block of numbers reads as a list -/
theorem ints_at {w : World} {b : Nat} {t : TypeId} {fr : Nat × Nat} {xs : List Int} (h : w.heap[b]? = some (.cells (xs.map (Value.int .i64)).toArray t fr)) (hl : xs.length < 1152921504606846976) : Ints w (some ⟨b, 0, none⟩) xs.length xs := by
  refine ⟨rfl, hl, fun j hj => ⟨⟨b, 0, none⟩, rfl, (Array.getElem?_eq_some_iff.1 h).1, ?_⟩⟩
  have e : ((⟨b, 0, none⟩ : Addr).add j) = ⟨b, j, none⟩ := by
    unfold Addr.add; split
    · subst_vars; rfl
    · simp
  rw [e]
  exact cell_at h (by simp [hj])
theorem rows3 {w : World} {B : Nat} {t : TypeId} {fr : Nat × Nat} {a1 a2 a3 : Option Addr} {n1 c1 n2 c2 n3 c3 : Nat} {x1 x2 x3 : List Int} (h : w.heap[B]? = some (.cells #[.slice a1 n1 c1, .slice a2 n2 c2, .slice a3 n3 c3] t fr)) (h1 : Ints w a1 n1 x1) (h2 : Ints w a2 n2 x2) (h3 : Ints w a3 n3 x3) : RowsAt w (some ⟨B, 0, none⟩) 3 [x1, x2, x3] := by
  have hB := (Array.getElem?_eq_some_iff.1 h).1
  refine ⟨rfl, by omega, fun j hj => ?_⟩
  match j, hj with
  | 0, _ => exact ⟨_, a1, n1, c1, rfl, hB, cell_at h rfl, h1⟩
  | 1, _ => exact ⟨_, a2, n2, c2, rfl, hB, cell_at h rfl, h2⟩
  | 2, _ => exact ⟨_, a3, n3, c3, rfl, hB, cell_at h rfl, h3⟩

theorem ex_fleet {w : World} {b : Nat} (h1 : w.heap[b + 1]? = some (.cells #[.int .i64 5, .int .i64 8] 3)) (h2 : w.heap[b + 1 + 1]? = some (.cells #[.int .i64 4] 3)) (h3 : w.heap[b + 1 + 1 + 1]? = some (.cells #[.int .i64 6] 3))
    (h4 : w.heap[b + 1 + 1 + 1 + 1]? = some (.cells #[.slice (some ⟨b + 1, 0, none⟩) 2 2, .slice (some ⟨b + 1 + 1, 0, none⟩) 1 1, .slice (some ⟨b + 1 + 1 + 1, 0, none⟩) 1 1] 26))
    (h5 : w.heap[b + 1 + 1 + 1 + 1 + 1]? = some (.cells #[.int .i64 0, .int .i64 1, .int .i64 1, .int .i64 0, .int .i64 0, .int .i64 2, .int .i64 2, .int .i64 0] 70)) :
    FlAt w (some ⟨b + 1 + 1 + 1 + 1, 0, none⟩) 3 (some ⟨b + 1 + 1 + 1 + 1 + 1, 0, none⟩) 2 exF := by
  refine ⟨rows3 h4 (ints_at (xs := [5, 8]) h1 (by simp)) (ints_at (xs := [4]) h2 (by simp)) (ints_at (xs := [6]) h3 (by simp)), rfl, by omega, fun j hj => ?_⟩
  have hB := (Array.getElem?_eq_some_iff.1 h5).1
  match j, hj with
  | 0, _ => exact ⟨_, rfl, hB, cell_at h5 rfl, cell_at h5 rfl, cell_at h5 rfl, cell_at h5 rfl⟩
  | 1, _ => exact ⟨_, rfl, hB, cell_at h5 rfl, cell_at h5 rfl, cell_at h5 rfl, cell_at h5 rfl⟩

set_option maxHeartbeats 1000000 in
theorem example_any (w : World) : Calls Try.prog 46 #[] w (ExPost w) := by
  go_enter Try.func46, Try.ntmps46
  go_wp2_with fail
  refine bodyPost_ret (v := .agg #[.slice (some ⟨w.heap.size + 1 + 1 + 1 + 1, 0, none⟩) 3 3, .slice (some ⟨w.heap.size + 1 + 1 + 1 + 1 + 1, 0, none⟩) 2 2]) (by simp [results, Try.results46, go_sem]) rfl ⟨_, _, _, _, rfl, ?_, (((((Gr.alloc _ _).allocR _).allocR _).allocR _).allocR _).allocR _⟩
  refine ex_fleet ?_ ?_ ?_ ?_ ?_ <;> simp only [heap_alloc_at, World.size_alloc] <;> simp
end
section
open Go.RowKit

/-- two new states -/
structure TwoSt (w w' : World) (xs ys : List Int) : Prop where
  gr : Gr w w'
  a : Ints w' (some ⟨w.heap.size, 0, none⟩) 3 xs
  b : Ints w' (some ⟨w.heap.size + 1, 0, none⟩) 3 ys
theorem twoSt (w : World) (x0 x1 x2 y0 y1 y2 : Int) : TwoSt w ((w.alloc (.cells #[.int .i64 x0, .int .i64 x1, .int .i64 x2] 3)).alloc (.cells #[.int .i64 y0, .int .i64 y1, .int .i64 y2] 3)) [x0, x1, x2] [y0, y1, y2] := by
  refine ⟨(Gr.alloc _ _).allocR _, ints_at (xs := [x0, x1, x2]) (t := 3) (fr := (0, 0)) ?_ (by simp), ints_at (xs := [y0, y1, y2]) (t := 3) (fr := (0, 0)) ?_ (by simp)⟩
  · simp only [heap_alloc_at, World.size_alloc]; simp
  · simp only [heap_alloc_at, World.size_alloc]; simp
/-- three new states in a list -/
theorem threeSt (w : World) (x0 x1 x2 y0 y1 y2 z0 z1 z2 : Int) :
    RowsAt ((((w.alloc (.cells #[.int .i64 x0, .int .i64 x1, .int .i64 x2] 3)).alloc (.cells #[.int .i64 y0, .int .i64 y1, .int .i64 y2] 3)).alloc (.cells #[.int .i64 z0, .int .i64 z1, .int .i64 z2] 3)).alloc
      (.cells #[.slice (some ⟨w.heap.size, 0, none⟩) 3 3, .slice (some ⟨w.heap.size + 1, 0, none⟩) 3 3, .slice (some ⟨w.heap.size + 1 + 1, 0, none⟩) 3 3] 26)) (some ⟨w.heap.size + 1 + 1 + 1, 0, none⟩) 3 [[x0, x1, x2], [y0, y1, y2], [z0, z1, z2]] := by
  refine rows3 (a1 := some ⟨w.heap.size, 0, none⟩) (a2 := some ⟨w.heap.size + 1, 0, none⟩) (a3 := some ⟨w.heap.size + 1 + 1, 0, none⟩) (n1 := 3) (n2 := 3) (n3 := 3) (c1 := 3) (c2 := 3) (c3 := 3) (t := 26) (fr := (0, 0)) ?_ (ints_at (xs := [x0, x1, x2]) (t := 3) (fr := (0, 0)) ?_ (by simp)) (ints_at (xs := [y0, y1, y2]) (t := 3) (fr := (0, 0)) ?_ (by simp)) (ints_at (xs := [z0, z1, z2]) (t := 3) (fr := (0, 0)) ?_ (by simp)) <;>
    simp only [heap_alloc_at, World.size_alloc]
  · simp
  · rw [if_neg (by omega), if_neg (by omega), if_neg (by omega), if_pos trivial]; rfl
  · rw [if_neg (by omega), if_neg (by omega), if_pos trivial]; rfl
  · rw [if_neg (by omega), if_pos trivial]; rfl

set_option maxHeartbeats 1000000 in
theorem look_any (w : World) : Calls Try.prog 16 #[] w fun e w' => e = .returned (.bool true) ∧ Gr w w' := by
  have HE := Lib.hid example_any
  go_enter Try.func16, Try.ntmps16
  go_wp2_with fail
  refine (HE.out w).mono ?_
  rintro e w1 ⟨ta, tc, ca, cc, rfl, hf1, g1⟩
  have h2 := twoSt w1 0 0 0 2 1 1
  obtain ⟨w2, hw2⟩ : ∃ w2, (w1.alloc (.cells #[.int .i64 0, .int .i64 0, .int .i64 0] 3)).alloc (.cells #[.int .i64 2, .int .i64 1, .int .i64 1] 3) = w2 := ⟨_, rfl⟩
  rw [hw2] at h2
  have hp := plan_any ta ca (some ⟨w1.heap.size, 0, none⟩) (some ⟨w1.heap.size + 1, 0, none⟩) 3 tc 2 cc 3 3 3 3 exF [0, 0, 0] [2, 1, 1] 8 w2 (hf1.gr h2.gr) h2.a h2.b
  rw [ex_plan, ex_planE] at hp
  have HP := Lib.hid hp
  clear hp
  go_wp2_with fail
  refine HP.out.mono ?_
  rintro e w3 ⟨ra, rn, rc, rfl, hr3, g3, _⟩
  clear hw2 HP
  have G3 := (g1.trans h2.gr).trans g3
  clear h2 hf1 g1 g3
  go_wp2_with fail
  refine (HE.out w3).mono ?_
  rintro e w4 ⟨ta4, tc4, ca4, cc4, rfl, hf4, g4⟩
  have h5 := twoSt w4 0 0 0 2 1 1
  obtain ⟨w5, hw5⟩ : ∃ w5, (w4.alloc (.cells #[.int .i64 0, .int .i64 0, .int .i64 0] 3)).alloc (.cells #[.int .i64 2, .int .i64 1, .int .i64 1] 3) = w5 := ⟨_, rfl⟩
  rw [hw5] at h5
  have hl := leastF_any ta4 ca4 (some ⟨w4.heap.size, 0, none⟩) (some ⟨w4.heap.size + 1, 0, none⟩) 3 tc4 2 cc4 3 3 3 3 exF [0, 0, 0] [2, 1, 1] w5 (hf4.gr h5.gr) h5.a h5.b
  rw [ex_least, ex_leastE] at hl
  have HL := Lib.hid hl
  clear hl
  go_wp2_with fail
  refine HL.out.mono ?_
  rintro e w6 ⟨rfl, g6⟩
  clear hw5 HL
  have G36 := (g4.trans h5.gr).trans g6
  have hr6 := hr3.gr G36
  have G6 := G3.trans G36
  clear h5 hf4 g4 g6 hr3 G3 G36 HE
  have h7 := threeSt w6 0 0 1 0 1 1 2 1 1
  have g7 := (((Gr.alloc w6 (.cells #[.int .i64 0, .int .i64 0, .int .i64 1] 3)).allocR (.cells #[.int .i64 0, .int .i64 1, .int .i64 1] 3)).allocR (.cells #[.int .i64 2, .int .i64 1, .int .i64 1] 3)).allocR (.cells #[.slice (some ⟨w6.heap.size, 0, none⟩) 3 3, .slice (some ⟨w6.heap.size + 1, 0, none⟩) 3 3, .slice (some ⟨w6.heap.size + 1 + 1, 0, none⟩) 3 3] 26)
  obtain ⟨w7, hw7⟩ : ∃ w7, (((w6.alloc (.cells #[.int .i64 0, .int .i64 0, .int .i64 1] 3)).alloc (.cells #[.int .i64 0, .int .i64 1, .int .i64 1] 3)).alloc (.cells #[.int .i64 2, .int .i64 1, .int .i64 1] 3)).alloc (.cells #[.slice (some ⟨w6.heap.size, 0, none⟩) 3 3, .slice (some ⟨w6.heap.size + 1, 0, none⟩) 3 3, .slice (some ⟨w6.heap.size + 1 + 1, 0, none⟩) 3 3] 26) = w7 := ⟨_, rfl⟩
  rw [hw7] at h7 g7
  have hs := sameStates_any ra (some ⟨w6.heap.size + 1 + 1 + 1, 0, none⟩) rn rc 3 3 _ _ w7 (hr6.gr g7) h7
  rw [decide_eq_true rfl] at hs
  have HS := Lib.hid hs
  clear hs
  go_wp2_with fail
  refine HS.out.mono ?_
  rintro e w8 ⟨rfl, g8⟩
  clear hw7
  go_wp2_with fail
  go_ret
  exact ⟨rfl, (G6.trans g7).trans g8⟩
end
section
open Go.RowKit

/-- the first step of a plan that is none, and why -/
def cpLoop (f : Fl) (bu : Int) : List Int → List (List Int) → Int → Int × Int
  | _, [], _ => (0, 0)
  | p, s :: r, i => if worksB f s then (if stepsB f.times p s bu then cpLoop f bu s r (i + 1) else (i, 112)) else (i, 111)
def cpPre (f : Fl) (a : List Int) (L : List (List Int)) (bu : Int) : Int := if chkE f = 0 then (if 64 < L.length then 1 else beginE f bu (a :: L)) else chkE f
/-- what CheckPlan returns -/
def cpR (f : Fl) (a : List Int) (L : List (List Int)) (bu : Int) : Int × Int := if cpPre f a L bu = 0 then (if worksB f a then cpLoop f bu a L 0 else (-1, 111)) else (0, cpPre f a L bu)

theorem list_pick {α : Type} {P : Nat → α → Prop} (d : α) : ∀ n, (∀ j, j < n → ∃ x, P j x) → ∃ L : List α, L.length = n ∧ ∀ j, j < n → P j (L[j]?.getD d) := by
  intro n
  induction n with
  | zero => intro _; exact ⟨[], rfl, fun j hj => by omega⟩
  | succ n ih =>
    intro h
    obtain ⟨L, hl, hL⟩ := ih (fun j hj => h j (by omega))
    obtain ⟨x, hx⟩ := h n (by omega)
    refine ⟨L ++ [x], by simp [hl], fun j hj => ?_⟩
    by_cases e : j = n
    · subst e; rw [← hl]; simpa [hl] using hx
    · rw [List.getElem?_append_left (by omega)]; exact hL j (by omega)

/-- the cells of a list of states -/
theorem RowsAt.vals {w : World} {ad : Addr} {n : Nat} {L : List (List Int)} (h : RowsAt w (some ad) n L) : ∃ vs : List Value, vs.length = n ∧ ∀ j, j < n → ∃ a' n' c', vs[j]? = some (.slice a' n' c') ∧ w.cell? (ad.add j) = some (.slice a' n' c') ∧ Ints w a' n' (L[j]?.getD []) := by
  obtain ⟨vs, h1, h2⟩ := list_pick (P := fun j (v : Value) => ∃ a' n' c', v = .slice a' n' c' ∧ w.cell? (ad.add j) = some (.slice a' n' c') ∧ Ints w a' n' (L[j]?.getD [])) undef n (fun j hj => by
    obtain ⟨ad', a', n', c', e, _, hc, hi⟩ := h.at hj
    cases e
    exact ⟨_, a', n', c', rfl, hc, hi⟩)
  refine ⟨vs, h1, fun j hj => ?_⟩
  obtain ⟨a', n', c', e, hc, hi⟩ := h2 j hj
  have hlt : j < vs.length := by omega
  refine ⟨a', n', c', ?_, hc, hi⟩
  simp [hlt] at e
  simp [hlt, e]

theorem src_none (w : World) (pa : Option Addr) (pc : Nat) : Src Try.prog 1 22 (.slice pa 0 pc) 0 [] w := by
  refine ⟨.inl ⟨26, Try.underlying22⟩, fun w' => ?_, ?_, ?_, rfl, fun u hu => by simp at hu⟩
  · simp [Builtin.lenOf]
  · cases pa <;> simp [Builtin.firstCells, loadCells, loadCellsFrom]
  · cases pa <;> simp [Builtin.firstCells, loadCells, loadCellsFrom]

/-- append of a list of states to a new list of one state -/
theorem cp_append {o : Oper} {a : Act} {w3 W : World} {K : Act → World → Prop} {Q : Exit → Act → World → Prop} {s x : Operand} {sa pa : Option Addr} {n c pn pc g : Nat} {xs : List Int} {L : List (List Int)}
    (ho : o.op = .call { callee := .builtin .append, args := #[s, x], argTypes := #[22, 22] }) (hs : a.eval s = .slice (some ⟨g, 0, none⟩) 1 1) (hx : a.eval x = .slice pa pn pc)
    (hg : W.heap[g]? = some (.cells #[.slice sa n c] 26 (0, 0))) (hge : w3.heap.size ≤ g) (hgr : Gr w3 W) (hi : Ints w3 sa n xs) (hL : RowsAt w3 pa pn L) (h64 : pn ≤ 64)
    (h : ∀ ra rc w6, RowsAt w6 ra (pn + 1) (xs :: L) → Gr w3 w6 → K (a.put o.dst (.slice ra (pn + 1) rc)) w6) : o.wp Try.prog a W K Q := by
  obtain ⟨i0, hi0, hz0, hz1, hz2⟩ := info_parts Try.info26
  have hgl : g < W.heap.size := (Array.getElem?_eq_some_iff.1 hg).1
  by_cases hp : pn = 0
  · subst hp
    have hL0 : L = [] := List.eq_nil_of_length_eq_zero hL.len
    subst hL0
    have hsrc := src_none W pa pc
    rw [← hz1] at hsrc
    have hrun := run_append_nothing (P := Try.prog) W 22 22 o.type 26 i0 Try.underlying22 hi0 (some ⟨g, 0, none⟩) 1 1 (Nat.le_refl _) _ hsrc
    unfold Oper.wp execOp
    simp only [ho, resolve, invoke, builtin, Sem.run_bind, Sem.run_pure, Result.andThen_ok, List.map_toArray, List.map_cons, List.map_nil, hs, hx, hrun]
    exact h _ _ _ (rows1 (c := c) hgl (cell_at hg rfl) (hi.gr hgr)) hgr
  · obtain ⟨ad, a', n', c', rfl, _⟩ := hL.at (j := 0) (by omega)
    obtain ⟨vs, hv1, hv2⟩ := (hL.gr hgr).vals
    have hown : W.ownsRow w3.heap.size 26 1 (.slice (some ⟨g, 0, none⟩) 1 1) 1 [.slice sa n c] := ⟨rfl, .inr ⟨g, 1, #[.slice sa n c], rfl, hge, hg, Nat.le_refl _, by unfold maxLen; omega, rfl, rfl⟩⟩
    refine wp_append_own W s x 22 ho w3.heap.size 26 i0 (.slice none 0 0) 1 24 Try.underlying22 hi0 hz0 hz1 hz2 rfl (by decide) _ 1 _ hs hown ad pn pc vs hx (by rw [hv1, Nat.mul_one]) (fun j u hu => ?_) (fun u hu => ?_) (by unfold maxLen; omega) (by omega) hgr.size (fun v' w6 hown' hgrow _ => ?_)
    · have hj : j < pn := by have := (List.getElem?_eq_some_iff.1 hu).1; omega
      obtain ⟨a1, n1, c1, e, hc, _⟩ := hv2 j hj
      rw [e] at hu
      cases hu
      exact hc
    · obtain ⟨j, hj, e⟩ := List.mem_iff_getElem.1 hu
      obtain ⟨a1, n1, c1, e2, _, _⟩ := hv2 j (by omega)
      rw [List.getElem?_eq_getElem hj, e] at e2
      cases e2
      rfl
    · have hO := only_grown hgrow
      have hg6 : Gr w3 w6 := ((hgr.only (fun b => b = g)).trans (hO.mono' (fun i e => by simp [Value.ownBlock] at e; exact e.symm))).gr (fun i hi e => by omega)
      rcases hown'.2 with ⟨_, h0⟩ | ⟨g', cap, cur, rfl, _, hg', _⟩
      · omega
      · have e1 : 1 + pn = pn + 1 := by omega
        rw [e1] at hown' ⊢
        refine h _ _ _ ⟨by simp [hL.len], by omega, fun j hj => ?_⟩ hg6
        have hgl' := (Array.getElem?_eq_some_iff.1 hg').1
        cases j with
        | zero => exact ⟨⟨g', 0, none⟩, sa, n, c, rfl, hgl', hown'.cells (g := g') rfl 0 _ (by simp), hi.gr hg6⟩
        | succ j =>
          obtain ⟨a1, n1, c1, e, _, hi1⟩ := hv2 j (by omega)
          obtain ⟨_, a2, n2, c2, e3, _, hc2, hi2⟩ := hL.at (j := j) (by omega)
          cases e3
          obtain ⟨a3, n3, c3, e4, hc4, _⟩ := hv2 j (by omega)
          have hc2' := (hgr.cell (lt_cell hc2)).trans hc2
          rw [hc2'] at hc4
          cases hc4
          refine ⟨⟨g', 0, none⟩, a2, n2, c2, rfl, hgl', hown'.cells (g := g') rfl (j + 1) _ (by simp [e4]), ?_⟩
          simpa using hi2.gr hg6

structure R23 (w3 : World) (v : Value) (xs : List Int) (L : List (List Int)) (m : Nat) (done : Nat → Bool) (u : Nat → Value) (W : World) : Prop where
  gr : Gr w3 W
  one : done 5 = false → done 3 = true → ∃ g, u 3 = .slice (some ⟨g, 0, none⟩) 1 1 ∧ w3.heap.size ≤ g ∧ W.heap[g]? = some (.cells #[v] 26 (0, 0))
  all : done 5 = true → ∃ ra rc, u 5 = .slice ra m rc ∧ RowsAt W ra m (xs :: L)
theorem R23.start (w3 : World) (v : Value) (xs : List Int) (L : List (List Int)) (m : Nat) (u : Nat → Value) : R23 w3 v xs L m (fun _ => false) u w3.drew := ⟨Gr.drew _, (fun _ h => by cases h), (fun h => by cases h)⟩
theorem R23.quiet {w3 W : World} {v : Value} {xs : List Int} {L : List (List Int)} {m : Nat} {done : Nat → Bool} {u : Nat → Value} (h : R23 w3 v xs L m done u W) {i : Nat} (h3 : 3 ≠ i) (h5 : 5 ≠ i) {x : Value} : R23 w3 v xs L m (upd done i) (fun j => if j = i then x else u j) W := by
  refine ⟨h.gr, ?_, ?_⟩ <;> simp only [upd_ne h3, upd_ne h5, if_neg h3, if_neg h5]
  · exact h.one
  · exact h.all
theorem R23.made {w3 W : World} {v : Value} {xs : List Int} {L : List (List Int)} {m : Nat} {done : Nat → Bool} {u : Nat → Value} (h : R23 w3 v xs L m done u W) (h5 : done 5 = false) : R23 w3 v xs L m (upd done 3) (fun j => if j = 3 then .slice (some ⟨W.heap.size, 0, none⟩) 1 1 else u j) (W.alloc (.cells #[v] 26)) :=
  ⟨h.gr.allocR _, fun _ _ => ⟨W.heap.size, by simp, h.gr.size, World.alloc_heap_new _ _⟩, (fun h => by rw [upd_ne (by decide), h5] at h; cases h)⟩
theorem R23.app {w3 W w6 : World} {v : Value} {xs : List Int} {L : List (List Int)} {m : Nat} {done : Nat → Bool} {u : Nat → Value} (h : R23 w3 v xs L m done u W) {ra : Option Addr} {rc : Nat} (hr : RowsAt w6 ra m (xs :: L)) (g : Gr w3 w6) : R23 w3 v xs L m (upd done 5) (fun j => if j = 5 then .slice ra m rc else u j) w6 :=
  ⟨g, (fun h => by rw [upd_self] at h; cases h), fun _ => ⟨ra, rc, by simp, hr⟩⟩
theorem R23.call {w3 W w6 : World} {v : Value} {xs : List Int} {L : List (List Int)} {m : Nat} {done : Nat → Bool} {u : Nat → Value} (h : R23 w3 v xs L m done u W) (h5 : done 5 = true) {x : Value} (g : Gr W w6) : R23 w3 v xs L m (upd done 6) (fun j => if j = 6 then x else u j) w6 := by
  refine ⟨h.gr.trans g, (fun hh => by rw [upd_ne (by decide), h5] at hh; cases hh), fun _ => ?_⟩
  obtain ⟨ra, rc, e, hr⟩ := h.all h5
  exact ⟨ra, rc, by simpa using e, hr.gr g⟩
end
section
def okPlan (f : Fl) (bu : Int) : List Int → List (List Int) → Prop
  | _, [] => True
  | p, s :: r => worksB f s = true ∧ stepsB f.times p s bu = true ∧ okPlan f bu s r
def planTime (T : List (List Int)) : List Int → List (List Int) → Int
  | _, [] => 0
  | p, s :: r => dur T p s + planTime T s r
def lastOf : List Int → List (List Int) → List Int
  | p, [] => p
  | _, s :: r => lastOf s r

theorem cpLoop_ok {f : Fl} {bu : Int} : ∀ (L : List (List Int)) (p : List Int) (i : Int), ((cpLoop f bu p L i).2 = 0 ↔ okPlan f bu p L) := by
  intro L
  induction L with
  | nil => intro p i; simp [cpLoop, okPlan]
  | cons s r ih =>
    intro p i
    simp only [cpLoop, okPlan]
    cases hw : worksB f s with
    | false => simp
    | true =>
      cases hs : stepsB f.times p s bu with
      | false => simp
      | true => simp [ih]

theorem rsLess_iff (a b : Rs) : rsLess a b = true ↔ a.steps < b.steps ∨ (a.steps = b.steps ∧ a.time < b.time) := by
  unfold rsLess orI cmpI
  simp only [decide_eq_true_eq]
  by_cases h1 : a.steps < b.steps
  · simp [h1]
  · by_cases h2 : b.steps < a.steps
    · simp [h1, h2]; omega
    · have : a.steps = b.steps := by omega
      simp [this]
      by_cases h3 : a.time < b.time
      · simp [h3]
      · by_cases h4 : b.time < a.time <;> simp [h3, h4]

def LexLe (a b : Rs) : Prop := a.steps < b.steps ∨ (a.steps = b.steps ∧ a.time ≤ b.time)
theorem LexLe.trans {a b c : Rs} (h : LexLe a b) (k : LexLe b c) : LexLe a c := by unfold LexLe at *; omega
theorem LexLe.refl (a : Rs) : LexLe a a := .inr ⟨rfl, Int.le_refl _⟩

theorem step_min {T : List (List Int)} {bu : Int} {s x : List Int} {rec : List Int → Rs} (b : Rs) : (b.is = true → (bestStep T bu s rec b x).is = true ∧ LexLe (bestStep T bu s rec b x) b) ∧
    (stepsB T s x bu = true → (rec x).is = true → (bestStep T bu s rec b x).is = true ∧ LexLe (bestStep T bu s rec b x) ((rec x).via T s x)) := by
  unfold bestStep
  cases hs : stepsB T s x bu with
  | false => exact ⟨fun h => ⟨h, LexLe.refl _⟩, fun h => by cases h⟩
  | true =>
    cases hr : (rec x).is with
    | false => exact ⟨fun h => ⟨h, LexLe.refl _⟩, fun _ h => by cases h⟩
    | true =>
      simp only [if_true]
      cases hb : b.is with
      | false =>
        simp only [Bool.not_false, Bool.true_or, if_true]
        exact ⟨fun h => (by cases h), fun _ _ => ⟨rfl, LexLe.refl _⟩⟩
      | true =>
        simp only [Bool.not_true, Bool.false_or]
        cases hl : rsLess ((rec x).via T s x) b with
        | true =>
          have := (rsLess_iff _ _).1 hl
          simp only [if_true]
          exact ⟨fun _ => ⟨rfl, by unfold LexLe; omega⟩, fun _ _ => ⟨rfl, LexLe.refl _⟩⟩
        | false =>
          have : ¬ (((rec x).via T s x).steps < b.steps ∨ (((rec x).via T s x).steps = b.steps ∧ ((rec x).via T s x).time < b.time)) := fun h => by rw [(rsLess_iff _ _).2 h] at hl; cases hl
          simp only [Bool.false_eq_true, if_false]
          exact ⟨fun _ => ⟨hb, LexLe.refl _⟩, fun _ _ => ⟨hb, by unfold LexLe; omega⟩⟩

theorem fold_min {T : List (List Int)} {bu : Int} {s : List Int} {rec : List Int → Rs} : ∀ (l : List (List Int)) (b : Rs), (b.is = true → (l.foldl (bestStep T bu s rec) b).is = true ∧ LexLe (l.foldl (bestStep T bu s rec) b) b) ∧
    (∀ x ∈ l, stepsB T s x bu = true → (rec x).is = true → (l.foldl (bestStep T bu s rec) b).is = true ∧ LexLe (l.foldl (bestStep T bu s rec) b) ((rec x).via T s x)) := by
  intro l
  induction l with
  | nil => intro b; exact ⟨fun h => ⟨h, LexLe.refl _⟩, fun x hx => by simp at hx⟩
  | cons y l ih =>
    intro b
    have h1 := step_min (T := T) (bu := bu) (s := s) (x := y) (rec := rec) b
    have h2 := ih (bestStep T bu s rec b y)
    refine ⟨fun hb => ?_, fun x hx hs hr => ?_⟩
    · have := h1.1 hb
      have k := h2.1 this.1
      exact ⟨k.1, k.2.trans this.2⟩
    · rcases List.mem_cons.1 hx with rfl | hx
      · have := h1.2 hs hr
        have k := h2.1 this.1
        exact ⟨k.1, k.2.trans this.2⟩
      · exact h2.2 x hx hs hr

theorem fold_via {T : List (List Int)} {bu : Int} {s : List Int} {rec : List Int → Rs} : ∀ (l : List (List Int)) (b : Rs), l.foldl (bestStep T bu s rec) b = b ∨ ∃ x ∈ l, l.foldl (bestStep T bu s rec) b = (rec x).via T s x := by
  intro l
  induction l with
  | nil => intro b; exact .inl rfl
  | cons y l ih =>
    intro b
    rw [List.foldl_cons]
    rcases ih (bestStep T bu s rec b y) with h | ⟨x, hx, h⟩
    · rw [h]
      unfold bestStep
      split
      · split
        · split
          · exact .inr ⟨y, by simp, rfl⟩
          · exact .inl rfl
        · exact .inl rfl
      · exact .inl rfl
    · exact .inr ⟨x, by simp [hx], h⟩

/-- a rest that is found leads over its next state -/
theorem bestV_via {f : Fl} {to : List Int} {bu : Int} {s : List Int} (hl : s.length = to.length) (hne : s ≠ to) (h : (bestV f to bu s).is = true) :
    bestV f to bu s = (bestV f to bu (bestV f to bu s).nxt).via f.times s (bestV f to bu s).nxt := by
  have he := bestV_eq (f := f) (bu := bu) hl
  rw [if_neg hne] at he
  cases ha : aboveV to s with
  | false => rw [ha] at he; simp at he; rw [he] at h; simp [Rs.no] at h
  | true =>
    rw [ha, if_pos rfl] at he
    rcases fold_via (T := f.times) (bu := bu) (s := s) (rec := bestV f to bu) (enum f s to s.length []) Rs.no with h1 | ⟨x, _, h1⟩
    · rw [he, h1] at h; simp [Rs.no] at h
    · rw [← he] at h1
      have hn : (bestV f to bu s).nxt = x := by rw [h1]; rfl
      rw [hn]
      exact h1

theorem path_ok {f : Fl} {to : List Int} {bu : Int} (hto : StOk f to) : ∀ (k : Nat) (s : List Int), gap s to ≤ k → StOk f s → (bestV f to bu s).is = true →
    okPlan f bu s (pathV f to bu s) ∧ lastOf s (pathV f to bu s) = to ∧ ((pathV f to bu s).length : Int) = (bestV f to bu s).steps ∧ planTime f.times s (pathV f to bu s) = (bestV f to bu s).time ∧ (∀ x ∈ pathV f to bu s, StOk f x) := by
  intro k
  induction k with
  | zero =>
    intro s hk hs hi
    have hl : s.length = to.length := by rw [hs.len, hto.len]
    by_cases he : s = to
    · subst he
      rw [pathV_end]
      refine ⟨trivial, rfl, ?_, ?_, fun x hx => by simp at hx⟩ <;> rw [bestV_eq rfl, if_pos rfl] <;> rfl
    · have := next_gap hl he hi; omega
  | succ k ih =>
    intro s hk hs hi
    have hl : s.length = to.length := by rw [hs.len, hto.len]
    by_cases he : s = to
    · subst he
      rw [pathV_end]
      refine ⟨trivial, rfl, ?_, ?_, fun x hx => by simp at hx⟩ <;> rw [bestV_eq rfl, if_pos rfl] <;> rfl
    · obtain ⟨h1, h2, h3⟩ := bestV_next hl he hi
      have hg := next_gap hl he hi
      have hv := bestV_via hl he hi
      have hbt := enum_between h1
      have hsx := hs.btw hto hbt.1
      rw [pathV_step hl he hi]
      obtain ⟨k1, k2, k3, k4, k5⟩ := ih _ (by omega) hsx h3
      refine ⟨⟨hbt.2, h2, k1⟩, k2, ?_, ?_, fun x hx => ?_⟩
      · rw [hv]; simp only [Rs.via, List.length_cons]; rw [← k3]; omega
      · rw [hv]; simp only [Rs.via, planTime]; rw [k4]; omega
      · rcases List.mem_cons.1 hx with rfl | hx
        · exact hsx
        · exact k5 x hx

theorem aboveV_trans {f : Fl} {a b c : List Int} (ha : StOk f a) (hb : StOk f b) (hc : StOk f c) (h1 : aboveV b a = true) (h2 : aboveV c b = true) : aboveV c a = true := by
  have k1 := aboveV_le h1
  have k2 := aboveV_le h2
  exact aboveV_true rfl (fun j hj => by have := k1 j (by rw [hb.len, ← hc.len]; exact hj); have := k2 j hj; omega)
theorem okPlan_above {f : Fl} {bu : Int} : ∀ (L : List (List Int)) (p : List Int), StOk f p → (∀ x ∈ L, StOk f x) → okPlan f bu p L → aboveV (lastOf p L) p = true := by
  intro L
  induction L with
  | nil => intro p _ _ _; exact aboveV_refl p
  | cons s r ih =>
    intro p hp hL h
    have hs := hL s (by simp)
    have hr := fun x hx => hL x (List.mem_cons_of_mem s hx)
    have h1 := ih s hs hr h.2.2
    have hlast : StOk f (lastOf s r) := by
      have : ∀ (r : List (List Int)) (s : List Int), StOk f s → (∀ x ∈ r, StOk f x) → StOk f (lastOf s r) := by
        intro r
        induction r with
        | nil => intro s hs _; exact hs
        | cons t r ih2 => intro s _ hr; exact ih2 t (hr t (by simp)) (fun x hx => hr x (by simp [hx]))
      exact this r s hs hr
    exact aboveV_trans hp hs hlast (stepsB_true h.2.1).1 h1

theorem best_min {f : Fl} {to : List Int} {bu : Int} (hok : FlOk f) (hto : StOk f to) : ∀ (L : List (List Int)) (s : List Int), StOk f s → (∀ x ∈ L, StOk f x) → okPlan f bu s L → lastOf s L = to →
    (bestV f to bu s).is = true ∧ ((bestV f to bu s).steps < L.length ∨ ((bestV f to bu s).steps = L.length ∧ (bestV f to bu s).time ≤ planTime f.times s L)) := by
  intro L
  induction L with
  | nil =>
    intro s _ _ _ hl
    have : s = to := hl
    subst this
    rw [bestV_eq rfl, if_pos rfl]
    exact ⟨rfl, .inr ⟨rfl, Int.le_refl _⟩⟩
  | cons x r ih =>
    intro s hs hL h hlast
    have hx := hL x (by simp)
    have hr := fun y hy => hL y (List.mem_cons_of_mem x hy)
    obtain ⟨i1, i2⟩ := ih x hx hr h.2.2 hlast
    obtain ⟨ha, hne, hd⟩ := stepsB_true h.2.1
    have hax : aboveV to x = true := by have := okPlan_above r x hx hr h.2.2; rw [show lastOf x r = to from hlast] at this; exact this
    have hl : s.length = to.length := by rw [hs.len, hto.len]
    have hasto := aboveV_trans hs hx hto ha hax
    have hbt : Btw s to x := ⟨by rw [hx.len, hs.len], fun c hc => aboveV_le ha c (by rw [hx.len, ← hs.len]; exact hc), fun c hc => aboveV_le hax c (by omega)⟩
    have hst : s ≠ to := fun e => by
      subst e
      have h1 := aboveV_le ha
      have h2 := aboveV_le hax
      exact hne ((eqUpto_iff (by rw [hs.len, hx.len])).1 (fun j hj => by
        have a1 := h1 j (by rw [hx.len, ← hs.len]; exact hj)
        have a2 := h2 j hj
        omega))
    have hmem := enum_has h.1 hbt
    have hfm := (fold_min (T := f.times) (bu := bu) (s := s) (rec := bestV f to bu) (enum f s to s.length []) Rs.no).2 x hmem h.2.1 i1
    have he := bestV_eq (f := f) (bu := bu) hl
    rw [if_neg hst, hasto, if_pos rfl] at he
    rw [← he] at hfm
    refine ⟨hfm.1, ?_⟩
    have h2 := hfm.2
    unfold LexLe Rs.via at h2
    simp only [List.length_cons, planTime] at *
    omega
end
section
open Go.RowKit

def pAt (xs : List Int) (L : List (List Int)) (j : Nat) : List Int := (xs :: L)[j]?.getD []
def planTo (T : List (List Int)) (xs : List Int) (L : List (List Int)) : Nat → Int
  | 0 => 0
  | k + 1 => planTo T xs L k + dur T (pAt xs L k) (pAt xs L (k + 1))
theorem planTo_cons (T : List (List Int)) (xs s : List Int) (r : List (List Int)) : ∀ k, planTo T xs (s :: r) (k + 1) = dur T xs s + planTo T s r k := by
  intro k
  induction k with
  | zero => simp [planTo, pAt]
  | succ k ih => rw [planTo, ih]; simp only [planTo, pAt, List.getElem?_cons_succ]; omega
theorem planTo_all (T : List (List Int)) : ∀ (L : List (List Int)) (xs : List Int), planTo T xs L L.length = planTime T xs L := by
  intro L
  induction L with
  | nil => intro xs; rfl
  | cons s r ih => intro xs; rw [List.length_cons, planTo_cons, ih]; rfl
theorem okPlan_at {f : Fl} {bu : Int} : ∀ (L : List (List Int)) (xs : List Int), okPlan f bu xs L → ∀ k, k < L.length → aboveV (pAt xs L (k + 1)) (pAt xs L k) = true := by
  intro L
  induction L with
  | nil => intro xs _ k hk; simp at hk
  | cons s r ih =>
    intro xs h k hk
    cases k with
    | zero => simpa [pAt] using (stepsB_true h.2.1).1
    | succ k => have := ih s h.2.2 k (by simpa using hk); simpa [pAt] using this

structure PlOk (f : Fl) (bu : Int) (xs : List Int) (L : List (List Int)) : Prop where
  ok : FlOk f
  a : StOk f xs
  l : ∀ j, j < L.length → StOk f (L[j]?.getD [])
  pl : okPlan f bu xs L
  n64 : L.length ≤ 64
theorem PlOk.at {f : Fl} {bu : Int} {xs : List Int} {L : List (List Int)} (h : PlOk f bu xs L) {k : Nat} (hk : k ≤ L.length) : StOk f (pAt xs L k) := by
  cases k with
  | zero => simpa [pAt] using h.a
  | succ k => simpa [pAt] using h.l k (by omega)
theorem PlOk.le {f : Fl} {bu : Int} {xs : List Int} {L : List (List Int)} (h : PlOk f bu xs L) {k : Nat} (hk : k < L.length) : ∀ c, c < f.times.length → (pAt xs L k)[c]?.getD 0 ≤ (pAt xs L (k + 1))[c]?.getD 0 :=
  fun c hc => aboveV_le (okPlan_at L xs h.pl k hk) c (by rw [(h.at (k := k + 1) (by omega)).len]; exact hc)
theorem PlOk.bd {f : Fl} {bu : Int} {xs : List Int} {L : List (List Int)} (h : PlOk f bu xs L) : ∀ k, k ≤ L.length → 0 ≤ planTo f.times xs L k ∧ planTo f.times xs L k ≤ 60000 * k := by
  intro k
  induction k with
  | zero => intro _; simp [planTo]
  | succ k ih =>
    intro hk
    have h1 := ih (by omega)
    have hs := h.at (k := k + 1) (by omega)
    have h2 := durTo_bd h.ok (fun c hc => ((h.at (k := k) (by omega)).ver c hc).1) hs (h.le (k := k) (by omega)) f.times.length (Nat.le_refl _)
    have h6 := h.ok.n6
    simp only [planTo, dur]
    rw [hs.len]
    omega

set_option maxRecDepth 100000 in
set_option maxHeartbeats 4000000 in
theorem timesOf_any (ta ca a pa : Option Addr) (tn tc cn cc n c pn pc : Nat) (f : Fl) (xs : List Int) (L : List (List Int)) (bu : Int) (w : World) (hf : FlAt w ta tn ca cn f) (hx : Ints w a n xs) (hL : RowsAt w pa pn L) (hp : PlOk f bu xs L) :
    Calls Try.prog 24 #[.agg #[.slice ta tn tc, .slice ca cn cc], .slice a n c, .slice pa pn pc] w fun e w' => e = .returned (.int .i64 (planTime f.times xs L)) ∧ Gr w w' := by
  have HP := Lib.hid hp
  have hpl := hL.lt
  have HLL := Lib.hid hL.len
  have htn : tn = f.times.length := hf.t.len.symm
  have HT := Lib.hid htn
  have h6 : tn ≤ 6 := by have := hp.ok.n6; omega
  have h64 : pn ≤ 64 := by have := hp.n64; have := hL.len; omega
  clear htn hp
  go_enter Try.func24, Try.ntmps24
  go_wp2
  obtain ⟨w1, hw1⟩ : ∃ w1, w.alloc (.cells #[.slice ta tn tc, .slice ca cn cc] 25) = w1 := ⟨_, rfl⟩
  have hg1 : Gr w w1 := by rw [← hw1]; exact Gr.alloc _ _
  have hc0 : w1.cell? ⟨w.heap.size, 0, none⟩ = some (.slice ta tn tc) := by rw [← hw1]; simp
  rw [hw1]
  clear hw1
  have hft := hf.t.gr hg1
  have hL1 := hL.gr hg1
  go_loop [7, 8, 9] (fun t p i => ∃ (k : Nat) (sa : Option Addr) (sn sc : Nat), k ≤ pn ∧ i = .int .i64 k ∧ p = .slice sa sn sc ∧ t = .int .i64 (planTo f.times xs L k) ∧ Hid (Ints w1 sa sn (pAt xs L k))) (fun _ _ i => pn - (intOf i).toNat)
  case atStart => exact ⟨0, a, n, c, Nat.zero_le _, rfl, rfl, rfl, Lib.hid (by simpa [pAt] using hx.gr hg1)⟩
  case round =>
    obtain ⟨k, sa, sn, sc, hk, rfl, rfl, rfl, hi⟩ := hrel
    have hkL : k ≤ L.length := by rw [HLL.out]; exact hk
    have hst := HP.out.at hkL
    obtain rfl : sn = tn := by rw [← hi.out.len, hst.len, HT.out]
    have hbk := HP.out.bd k hkL
    have HST := Lib.hid hst
    clear hst
    by_cases hlt : k < pn
    · obtain ⟨pp, ra, rn, rc, rfl, hpb, hpc, hri⟩ := hL1.at hlt
      have hsy := HP.out.at (k := k + 1) (by rw [HLL.out]; exact hlt)
      have hry : pAt xs L (k + 1) = L[k]?.getD [] := by simp [pAt]
      have hri2 : Ints w1 ra rn (pAt xs L (k + 1)) := by rw [hry]; exact hri
      obtain rfl : rn = sn := by rw [← hri2.len, hsy.len, HT.out]
      have hle := HP.out.le (k := k) (by rw [HLL.out]; exact hlt)
      have HLE := Lib.hid hle
      have HSY := Lib.hid hsy
      have HBD := Lib.hid (durTo_bd HP.out.ok (fun c hc => (HST.out.ver c hc).1) hsy hle)
      have HNX : Hid (planTo f.times xs L (k + 1) = planTo f.times xs L k + durTo f.times (pAt xs L k) (pAt xs L (k + 1)) rn) := Lib.hid (by rw [planTo, dur, hsy.len, HT.out])
      clear hle hsy hry hri
      go_wp2
      generalize hP : planTo f.times xs L k = P0 at *
      generalize hA : pAt xs L k = A at *
      generalize hB : pAt xs L (k + 1) = B at *
      go_loop [7, 10] (fun t i => ∃ j : Nat, j ≤ rn ∧ i = .int .i64 j ∧ t = .int .i64 (P0 + durTo f.times A B j)) (fun _ i => rn - (intOf i).toNat)
      case atStart => exact ⟨0, Nat.zero_le _, rfl, by simp [durTo]⟩
      case round =>
        obtain ⟨j, hj, rfl, rfl⟩ := hrel
        have hb := HBD.out j (by rw [← HT.out]; exact hj)
        by_cases hlj : j < rn
        · obtain ⟨aa, rfl, hab, hac⟩ := hi.out.at hlj
          obtain ⟨bb, rfl, hbb, hbc⟩ := hri2.at hlj
          by_cases hc : B[j]?.getD 0 = A[j]?.getD 0
          · have hcb : (B[j]?.getD 0 != A[j]?.getD 0) = false := by simp [hc]
            have HC := Lib.hid hc
            clear hc
            go_wp2
            go_round
            case rel => exact ⟨j + 1, by omega, by go_num, by simp [durTo, HC.out]⟩
            case measure => simp [intOf]; omega
          · have hcb : (B[j]?.getD 0 != A[j]?.getD 0) = true := by simp [hc]
            obtain ⟨tt, qa, qn, qc, rfl, htb, htc, hqi⟩ := hft.at (j := j) hlj
            have hkl : j < f.times.length := by rw [← HT.out]; exact hlj
            have hv0 := (HST.out.ver j hkl).1
            have hvl := HLE.out j hkl
            have hv1 : 1 ≤ B[j]?.getD 0 := by omega
            have hv3 := (HSY.out.ver j hkl).2
            have hql := hqi.len
            have hv4 : B[j]?.getD 0 ≤ qn := by omega
            have hv2 : B[j]?.getD 0 - 1 < qn := by omega
            have htm := tm_bd HP.out.ok hkl hv1 hv3
            have HS : Hid (durTo f.times A B (j + 1) = durTo f.times A B j + tm f.times j (B[j]?.getD 0)) := Lib.hid (by simp [durTo, hc])
            have hrl := hqi.lt
            obtain ⟨rr, rfl, hrb, hrc⟩ := hqi.at (j := (B[j]?.getD 0).toNat - 1) (by omega)
            have hrc' : w1.cell? (rr.add ((B[j]?.getD 0).toNat - 1)) = some (.int .i64 (tm f.times j (B[j]?.getD 0))) := hrc
            clear hc hrc hv0 hvl hv3 hql
            go_wp2
            go_round
            case rel => exact ⟨j + 1, by omega, by go_num, by rw [HS.out, Int.add_assoc]⟩
            case measure => simp [intOf]; omega
        · obtain rfl : j = rn := by omega
          go_wp2
          go_round
          case rel => exact ⟨k + 1, ra, j, rc, by omega, by go_num, rfl, by rw [HNX.out], Lib.hid (by rw [hB]; exact hri2)⟩
          case measure => simp [intOf]; omega
    · obtain rfl : k = pn := by omega
      go_wp2
      go_ret
      exact ⟨ret_int (by rw [← planTo_all, HLL.out]), hg1⟩
end
section
open Go.RowKit

theorem beginE_all {f : Fl} {bu : Int} {a : List Int} {L : List (List Int)} (h : beginE f bu (a :: L) = 0) : FlOk f ∧ StOk f a ∧ ∀ j, j < L.length → StOk f (L[j]?.getD []) := by
  have hz : statesE f (a :: L) = 0 := by
    unfold beginE at h
    by_cases hz : statesE f (a :: L) = 0
    · exact hz
    · rw [if_neg hz] at h; exact absurd h hz
  obtain ⟨hchk, hsts⟩ := statesE_zero hz
  simp only [stsB, List.all_eq_true, List.mem_range] at hsts
  refine ⟨chkB_ok hchk, stB_ok (by simpa using hsts 0 (by simp)), fun j hj => stB_ok ?_⟩
  have := hsts (j + 1) (by simp; omega)
  simpa using this

set_option maxRecDepth 100000 in
set_option maxHeartbeats 4000000 in
theorem checkPlan_any (ta ca a pa : Option Addr) (tn tc cn cc n c pn pc : Nat) (f : Fl) (xs : List Int) (L : List (List Int)) (bu : Int) (w : World) (hf : FlAt w ta tn ca cn f) (hx : Ints w a n xs) (hL : RowsAt w pa pn L) :
    Calls Try.prog 23 #[.agg #[.slice ta tn tc, .slice ca cn cc], .slice a n c, .slice pa pn pc, .int .i64 bu] w fun e w' => e = .returned (.tuple #[.int .i64 (cpR f xs L bu).1, .int .i64 (cpR f xs L bu).2]) ∧ Gr w w' := by
  have g1 := Gr.alloc w (.cells #[.slice ta tn tc, .slice ca cn cc] 25)
  have c0 := cell_new (w := w) (t := 25) (cs := #[.slice ta tn tc, .slice ca cn cc]) (j := 0) rfl
  have c1 := cell_new (w := w) (t := 25) (cs := #[.slice ta tn tc, .slice ca cn cc]) (j := 1) rfl
  obtain ⟨w1, hw1⟩ : ∃ w1, w.alloc (.cells #[.slice ta tn tc, .slice ca cn cc] 25) = w1 := ⟨_, rfl⟩
  rw [hw1] at g1 c0 c1
  have HC := Lib.hid (check_any ta ca tn tc cn cc f w1 (hf.gr g1))
  have hpl := hL.lt
  by_cases he : chkE f = 0
  · have heb : (chkE f != 0) = false := by simp [he]
    by_cases h64 : 64 < pn
    · have HP : Hid (cpR f xs L bu = (0, 1)) := Lib.hid (by unfold cpR cpPre; rw [if_pos he, hL.len, if_pos h64]; rfl)
      clear he
      go_enter Try.func23, Try.ntmps23
      go_wp2_with fail
      refine HC.out.mono ?_
      rintro e w3 ⟨rfl, g3⟩
      go_wp2_with fail
      go_ret2
      exact ⟨by rw [HP.out]; rfl, g1.trans g3⟩
    have HPRE : Hid (cpPre f xs L bu = beginE f bu (xs :: L)) := Lib.hid (by unfold cpPre; rw [if_pos he, hL.len, if_neg h64])
    have HE := Lib.hid he
    clear he
    go_enter Try.func23, Try.ntmps23
    go_wp2_with fail
    refine HC.out.mono ?_
    rintro e w3 ⟨rfl, g3⟩
    have G3 := g1.trans g3
    have d0 := (g3.cell (lt_cell c0)).trans c0
    have d1 := (g3.cell (lt_cell c1)).trans c1
    clear hw1 c0 c1 HC g1 g3
    have c0 := d0
    have c1 := d1
    clear d0 d1
    have hf3 := hf.gr G3
    have hx3 := hx.gr G3
    have hL3 := hL.gr G3
    go_wp2_with fail
    refine (wpIn_wide (n := 0)).1 ?_
    refine region_inv (F := Fence.wide) (by kernel_rfl) (by rfl) (by decide) (fun _ => trivial)
      (fun done' u W' => Kn [some (.agg #[.slice ta tn tc, .slice ca cn cc]), some (.int .i64 bu), some (.slice a n c), none, some (.slice pa pn pc), none, some (.int .i64 (beginE f bu (xs :: L))), some (.int .i64 (beginE f bu (xs :: L)))] done' u ∧ R23 w3 (.slice a n c) xs L (pn + 1) done' u W')
      (fun u => ⟨Kn.start _ _, R23.start w3 (.slice a n c) xs L (pn + 1) u⟩) ⟨?_, ?_, ?_, ?_, ?_, ?_, ?_, ?_, trivial⟩ ?_
    · rintro u done' W' hd hanc hclo ⟨hk, hR⟩
      have c_c0 := (hR.gr.cell (lt_cell c0)).trans c0
      have c_c1 := (hR.gr.cell (lt_cell c1)).trans c1
      refine op_plain (ro := none) rfl (fun c h => by cases h) fun K hK => ?_
      simp only [fillL, List.setIfInBounds_toArray, List.set_cons_zero, List.set_cons_succ, Nat.zero_add, Nat.reduceAdd] at hK ⊢
      go_simp
      exact hK _ _ ⟨hk.new rfl, hR.quiet (by decide) (by decide)⟩
    · rintro u done' W' hd hanc hclo ⟨hk, hR⟩
      refine op_plain (ro := none) rfl (fun c h => by cases h) fun K hK => ?_
      simp only [fillL, List.setIfInBounds_toArray, List.set_cons_zero, List.set_cons_succ, Nat.zero_add, Nat.reduceAdd] at hK ⊢
      go_simp
      exact hK _ _ ⟨hk.new rfl, hR.quiet (by decide) (by decide)⟩
    · rintro u done' W' hd hanc hclo ⟨hk, hR⟩
      refine op_plain (ro := none) rfl (fun c h => by cases h) fun K hK => ?_
      simp only [fillL, List.setIfInBounds_toArray, List.set_cons_zero, List.set_cons_succ, Nat.zero_add, Nat.reduceAdd] at hK ⊢
      go_simp
      exact hK _ _ ⟨hk.new rfl, hR.quiet (by decide) (by decide)⟩
    · rintro u done' W' hd hanc hclo ⟨hk, hR⟩
      have e2 := hk.get 2 rfl (hanc 2 (mem_of (by kernel_rfl)))
      refine op_plain (ro := none) rfl (fun c h => by cases h) fun K hK => ?_
      simp only [fillL, List.setIfInBounds_toArray, List.set_cons_zero, List.set_cons_succ, Nat.zero_add, Nat.reduceAdd, e2] at hK ⊢
      go_simp
      exact hK _ _ ⟨hk.skip rfl, hR.made (not_done hclo hd 5 rfl (by kernel_rfl))⟩
    · rintro u done' W' hd hanc hclo ⟨hk, hR⟩
      refine op_plain (ro := none) rfl (fun c h => by cases h) fun K hK => ?_
      simp only [fillL, List.setIfInBounds_toArray, List.set_cons_zero, List.set_cons_succ, Nat.zero_add, Nat.reduceAdd] at hK ⊢
      go_simp
      exact hK _ _ ⟨hk.new rfl, hR.quiet (by decide) (by decide)⟩
    · rintro u done' W' hd hanc hclo ⟨hk, hR⟩
      have e4 := hk.get 4 rfl (hanc 4 (mem_of (by kernel_rfl)))
      have h3 := hanc 3 (mem_of (by kernel_rfl))
      obtain ⟨g0, e3, hge, hg0⟩ := hR.one hd h3
      refine op_plain (ro := none) rfl (fun c h => by cases h) fun K hK => ?_
      simp only [fillL, List.setIfInBounds_toArray, List.set_cons_zero, List.set_cons_succ, Nat.zero_add, Nat.reduceAdd, e3, e4] at hK ⊢
      refine cp_append (sa := a) (n := n) (c := c) (xs := xs) (L := L) (pa := pa) (pn := pn) (pc := pc) (g := g0) (w3 := w3) rfl rfl rfl hg0 hge hR.gr hx3 hL3 (by omega) ?_
      intro ra rc w6 hrows g6
      exact hK _ _ ⟨hk.skip rfl, hR.app hrows g6⟩
    · rintro u done' W' hd hanc hclo ⟨hk, hR⟩
      have e0 := hk.get 0 rfl (hanc 0 (mem_of (by kernel_rfl)))
      have e1 := hk.get 1 rfl (hanc 1 (mem_of (by kernel_rfl)))
      have h5 := hanc 5 (mem_of (by kernel_rfl))
      obtain ⟨ra, rc, e5, hrows⟩ := hR.all h5
      have HCON := Lib.hid (begin_any ta ca ra tn tc cn cc (pn + 1) rc f bu (xs :: L) W' (hf3.gr hR.gr) hrows)
      refine op_plain (ro := none) rfl (fun c h => by cases h) fun K hK => ?_
      simp only [fillL, List.setIfInBounds_toArray, List.set_cons_zero, List.set_cons_succ, Nat.zero_add, Nat.reduceAdd, e0, e1, e5] at hK ⊢
      go_simp
      refine HCON.out.mono ?_
      rintro e w6 ⟨rfl, g6⟩
      exact hK _ _ ⟨hk.new rfl, hR.call h5 g6⟩
    · rintro u done' W' hd hanc hclo ⟨hk, hR⟩
      have e6 := hk.get 6 rfl (hanc 6 (mem_of (by kernel_rfl)))
      refine op_plain (ro := none) rfl (fun c h => by cases h) fun K hK => ?_
      simp only [fillL, List.setIfInBounds_toArray, List.set_cons_zero, List.set_cons_succ, Nat.zero_add, Nat.reduceAdd, e6] at hK ⊢
      go_simp
      exact hK _ _ ⟨hk.new rfl, hR.quiet (by decide) (by decide)⟩
    · rintro u W' ⟨done', hdn, hk, hR⟩
      have e7 := hk.get 7 rfl (hdn 7 (by decide))
      have hg4 := hR.gr
      simp only [fillL, List.setIfInBounds_toArray, List.set_cons_zero, List.set_cons_succ, Nat.zero_add, Nat.reduceAdd, e7]
      clear hk hdn hR e7
      have G4 := G3.trans hg4
      have k0 := (hg4.cell (lt_cell c0)).trans c0
      have k1 := (hg4.cell (lt_cell c1)).trans c1
      clear c0 c1
      by_cases hbe : beginE f bu (xs :: L) = 0
      · have hbb : (beginE f bu (xs :: L) != 0) = false := by simp [hbe]
        have hok := (beginE_all hbe).1
        have hst := (beginE_all hbe).2.1
        have hall := (beginE_all hbe).2.2
        have hnt : n = f.times.length := by rw [← hst.len, hx.len]
        have HPR : Hid (cpR f xs L bu = if worksB f xs then cpLoop f bu xs L 0 else (-1, 111)) := Lib.hid (by unfold cpR; rw [HPRE.out, if_pos hbe])
        have HNT := Lib.hid hnt
        have HALL := Lib.hid hall
        have HBE := Lib.hid hbe
        clear hbe hnt hall
        have HW := Lib.hid (works_any ta ca a tn tc cn cc n c f xs W' (hf.gr G4) hok (hx.gr G4) hst)
        go_wp2_with fail
        refine HW.out.mono ?_
        rintro e w5 ⟨rfl, g5⟩
        have G5 := G4.trans g5
        have j0 := (g5.cell (lt_cell k0)).trans k0
        have j1 := (g5.cell (lt_cell k1)).trans k1
        clear k0 k1 HW
        cases hwx : worksB f xs with
        | false =>
          have HP : Hid (cpR f xs L bu = (-1, 111)) := Lib.hid (by rw [HPR.out, hwx]; rfl)
          go_wp2_with fail
          go_ret2
          exact ⟨by rw [HP.out]; rfl, G5⟩
        | true =>
          have HP : Hid (cpR f xs L bu = cpLoop f bu xs L 0) := Lib.hid (by rw [HPR.out, hwx]; rfl)
          clear HPR
          have hpn := hL.lt
          go_wp2_with fail
          go_loopw [1, 38] (fun s i wr => ∃ (k : Nat) (p : List Int) (qa : Option Addr) (qc : Nat), k ≤ pn ∧ i = .int .i64 k ∧ s = .slice qa n qc ∧ Gr w wr ∧ Ints wr qa n p ∧ StOk f p ∧ wr.cell? ⟨w.heap.size, 0, none⟩ = some (.slice ta tn tc) ∧ wr.cell? ⟨w.heap.size, 1, none⟩ = some (.slice ca cn cc) ∧ Hid (cpLoop f bu xs L 0 = cpLoop f bu p (L.drop k) k)) (fun _ i _ => pn - (intOf i).toNat)
          case atStart => exact ⟨0, xs, a, c, Nat.zero_le _, rfl, rfl, G5, hx.gr G5, hst, j0, j1, Lib.hid (by simp)⟩
          case round =>
            obtain ⟨k, p, qa, qc, hk, rfl, rfl, gr, hp, hps, m0, m1, HL⟩ := hrel
            by_cases hlt : k < pn
            · obtain ⟨pd, ya, yn, yc, rfl, hpb, hpc, hyi⟩ := (hL.gr gr).at hlt
              have hys : StOk f (L[k]?.getD []) := HALL.out k (by rw [hL.len]; exact hlt)
              have hyn : yn = n := by rw [← hyi.len, hys.len]; exact HNT.out.symm
              subst hyn
              have hdr : Hid (L.drop k = (L[k]?.getD []) :: L.drop (k + 1)) := Lib.hid (by
                have hl : k < L.length := by rw [hL.len]; exact hlt
                rw [List.drop_eq_getElem_cons hl]; simp [hl])
              generalize L[k]?.getD [] = y at *
              have HW := Lib.hid (works_any ta ca ya tn tc cn cc yn yc f y wr (hf.gr gr) hok hyi hys)
              go_wp2_with fail
              refine HW.out.mono ?_
              rintro e w6 ⟨rfl, g6⟩
              have G6 := gr.trans g6
              have q0 := (g6.cell (lt_cell m0)).trans m0
              have q1 := (g6.cell (lt_cell m1)).trans m1
              clear HW m0 m1
              cases hwy : worksB f y with
              | false =>
                have HF : Hid (cpR f xs L bu = ((k : Int), 111)) := Lib.hid (by rw [HP.out, HL.out, hdr.out]; simp [cpLoop, hwy])
                go_wp2_with fail
                go_ret2
                exact ⟨by rw [HF.out]; rfl, G6⟩
              | true =>
                have HS := Lib.hid (steps_any ta ca qa ya tn tc cn cc yn qc yc f p y bu w6 (hf.gr G6) hok (hp.gr g6) (hyi.gr g6) hps hys)
                go_wp2_with fail
                refine HS.out.mono ?_
                rintro e w7 ⟨rfl, g7⟩
                have G7 := G6.trans g7
                have q2 := (g7.cell (lt_cell q0)).trans q0
                have q3 := (g7.cell (lt_cell q1)).trans q1
                clear HS q0 q1
                cases hsy : stepsB f.times p y bu with
                | false =>
                  have HF : Hid (cpR f xs L bu = ((k : Int), 112)) := Lib.hid (by rw [HP.out, HL.out, hdr.out]; simp [cpLoop, hwy, hsy])
                  go_wp2_with fail
                  go_ret2
                  exact ⟨by rw [HF.out]; rfl, G7⟩
                | true =>
                  have HF : Hid (cpLoop f bu xs L 0 = cpLoop f bu y (L.drop (k + 1)) ((k + 1 : Nat) : Int)) := Lib.hid (by rw [HL.out, hdr.out]; simp [cpLoop, hwy, hsy])
                  have hy7 := (hyi.gr g6).gr g7
                  go_wp2_with fail
                  go_roundw
                  case rel => exact ⟨k + 1, y, ya, yc, by omega, by go_num, rfl, G7, hy7, hys, q2, q3, HF⟩
                  case measure => simp [intOf]; omega
            · obtain rfl : k = pn := by omega
              have HF : Hid (cpR f xs L bu = (0, 0)) := Lib.hid (by rw [HP.out, HL.out, List.drop_eq_nil_of_le (by rw [hL.len]; exact Nat.le_refl _)]; rfl)
              go_wp2_with fail
              go_ret2
              exact ⟨by rw [HF.out]; rfl, gr⟩
      · have hbb : (beginE f bu (xs :: L) != 0) = true := by simp [hbe]
        have HP : Hid (cpR f xs L bu = (0, beginE f bu (xs :: L))) := Lib.hid (by unfold cpR; rw [HPRE.out, if_neg hbe])
        clear hbe
        go_wp2_with fail
        go_ret2
        exact ⟨by rw [HP.out]; rfl, G4⟩
  · have heb : (chkE f != 0) = true := by simp [he]
    have HP : Hid (cpR f xs L bu = (0, chkE f)) := Lib.hid (by unfold cpR cpPre; rw [if_neg he, if_neg he])
    clear he
    go_enter Try.func23, Try.ntmps23
    go_wp2_with fail
    refine HC.out.mono ?_
    rintro e w3 ⟨rfl, g3⟩
    go_wp2_with fail
    go_ret2
    exact ⟨by rw [HP.out]; rfl, g1.trans g3⟩
end
section
theorem StOk.b {f : Fl} {s : List Int} (h : StOk f s) : stB f.times s = true := by
  refine stB_true h.len fun c hc => ?_
  have hc' : c < f.times.length := by rw [← h.len]; exact hc
  have := h.ver c hc'
  simp only [verB, Bool.and_eq_true, decide_eq_true_eq, Int.toNat_natCast]
  omega

theorem cpR_pl {f : Fl} {xs : List Int} {L : List (List Int)} {bu : Int} (h : (cpR f xs L bu).2 = 0) : PlOk f bu xs L := by
  unfold cpR at h
  by_cases hp : cpPre f xs L bu = 0
  · rw [if_pos hp] at h
    have hp2 := hp
    unfold cpPre at hp
    by_cases hc : chkE f = 0
    · rw [if_pos hc] at hp
      by_cases h64 : 64 < L.length
      · rw [if_pos h64] at hp; omega
      · rw [if_neg h64] at hp
        obtain ⟨h1, h2, h3⟩ := beginE_all hp
        cases hw : worksB f xs with
        | false => rw [hw] at h; simp at h
        | true =>
          rw [hw, if_pos rfl] at h
          exact ⟨h1, h2, h3, (cpLoop_ok L xs 0).1 h, by omega⟩
    · rw [if_neg hc] at hp; exact absurd hp hc
  · rw [if_neg hp] at h; exact absurd h hp

theorem path_len {f : Fl} {to : List Int} {bu : Int} (hto : StOk f to) : ∀ (k : Nat) (s : List Int), gap s to ≤ k → StOk f s → (bestV f to bu s).is = true → (pathV f to bu s).length ≤ k := by
  intro k
  induction k with
  | zero =>
    intro s hk hs hi
    have hl : s.length = to.length := by rw [hs.len, hto.len]
    by_cases he : s = to
    · subst he; rw [pathV_end]; simp
    · have := next_gap hl he hi; omega
  | succ k ih =>
    intro s hk hs hi
    have hl : s.length = to.length := by rw [hs.len, hto.len]
    by_cases he : s = to
    · subst he; rw [pathV_end]; simp
    · obtain ⟨h1, h2, h3⟩ := bestV_next hl he hi
      have hg := next_gap hl he hi
      rw [pathV_step hl he hi]
      have := ih _ (by omega) (hs.btw hto (enum_between h1).1) h3
      simp; omega

theorem pl_at {f : Fl} {L : List (List Int)} (h : ∀ x ∈ L, StOk f x) : ∀ j, j < L.length → StOk f (L[j]?.getD []) := fun j hj => by
  have : L[j]?.getD [] = L[j] := by simp [hj]
  rw [this]; exact h _ (List.getElem_mem hj)
theorem pl_mem {f : Fl} {L : List (List Int)} (h : ∀ j, j < L.length → StOk f (L[j]?.getD [])) : ∀ x ∈ L, StOk f x := fun x hx => by
  obtain ⟨j, hj, rfl⟩ := List.getElem_of_mem hx
  have := h j hj
  simpa [hj] using this

/-- the planner's way holds, arrives, and passes CheckPlan -/
theorem planV_holds {f : Fl} {xs ys : List Int} {bu : Int} (h : planE f xs ys bu = 0) : PlOk f bu xs (planV f xs ys bu) ∧ lastOf xs (planV f xs ys bu) = ys ∧ (cpR f xs (planV f xs ys bu) bu).2 = 0 ∧
    ((planV f xs ys bu).length : Int) = (bestV f ys bu xs).steps ∧ planTime f.times xs (planV f xs ys bu) = (bestV f ys bu xs).time := by
  have hv : planV f xs ys bu = pathV f ys bu xs := by unfold planV; rw [if_pos h]
  rw [hv]
  unfold planE at h
  by_cases hp : plannedE f xs ys bu = 0
  · rw [if_pos hp] at h
    have hi : (bestV f ys bu xs).is = true := by
      cases hi : (bestV f ys bu xs).is with
      | true => rfl
      | false => rw [hi] at h; simp at h
    obtain ⟨hb, hwx, _⟩ := plannedE_ok hp
    obtain ⟨hok, hsx, hsy⟩ := beginE_ok hb
    obtain ⟨k1, k2, k3, k4, k5⟩ := path_ok (f := f) (bu := bu) hsy (gap xs ys) xs (Nat.le_refl _) hsx hi
    have hlen := path_len (f := f) (bu := bu) hsy (gap xs ys) xs (Nat.le_refl _) hsx hi
    have hgap : gap xs ys ≤ 18 := by
      have := gapTo_bd hok hsx hsy f.times.length (Nat.le_refl _)
      have h6 := hok.n6
      unfold gap; rw [hsy.len]; omega
    have hPl : PlOk f bu xs (pathV f ys bu xs) := ⟨hok, hsx, pl_at k5, k1, by omega⟩
    refine ⟨hPl, k2, ?_, k3, k4⟩
    have hz : statesE f [xs, ys] = 0 := by
      unfold beginE at hb
      by_cases hz : statesE f [xs, ys] = 0
      · exact hz
      · rw [if_neg hz] at hb; exact absurd hb hz
    have hchk := (statesE_zero hz).1
    have hz2 : statesE f (xs :: pathV f ys bu xs) = 0 := statesE_ok hchk (fun j hj => by
      cases j with
      | zero => simpa using hsx.b
      | succ j => simpa using (hPl.l j (by simpa using hj)).b)
    have hb2 : beginE f bu (xs :: pathV f ys bu xs) = 0 := by
      unfold beginE at hb ⊢
      rw [if_pos hz] at hb
      rw [if_pos hz2]; exact hb
    have hpre : cpPre f xs (pathV f ys bu xs) bu = 0 := by
      have h0 : chkE f = 0 := by unfold chkE; rw [if_pos hchk]
      have h64 : ¬ 64 < (pathV f ys bu xs).length := by omega
      unfold cpPre; rw [if_pos h0, if_neg h64, hb2]
    unfold cpR
    rw [if_pos hpre, hwx, if_pos rfl]
    exact (cpLoop_ok _ _ _).2 k1
  · rw [if_neg hp] at h; exact absurd h hp

/-- no plan is shorter -/
theorem no_shorter {f : Fl} {xs ys : List Int} {bu : Int} {Q : List (List Int)} (hp : planE f xs ys bu = 0) (hq : PlOk f bu xs Q) (hl : lastOf xs Q = ys) :
    (planV f xs ys bu).length < Q.length ∨ ((planV f xs ys bu).length = Q.length ∧ planTime f.times xs (planV f xs ys bu) ≤ planTime f.times xs Q) := by
  obtain ⟨h1, h2, h3, h4, h5⟩ := planV_holds hp
  unfold planE at hp
  by_cases hpp : plannedE f xs ys bu = 0
  · obtain ⟨hb, _, _⟩ := plannedE_ok hpp
    obtain ⟨hok, hsx, hsy⟩ := beginE_ok hb
    have := best_min (bu := bu) hok hsy Q xs hsx (pl_mem hq.l) hq.pl hl
    omega
  · rw [if_neg hpp] at hp; exact absurd hp hpp

/-- where there is no plan, no plan holds and arrives -/
theorem no_plan {f : Fl} {xs ys : List Int} {bu : Int} {Q : List (List Int)} (hp : planE f xs ys bu = 112) (hq : PlOk f bu xs Q) (hl : lastOf xs Q = ys) : False := by
  unfold planE at hp
  by_cases hpp : plannedE f xs ys bu = 0
  · rw [if_pos hpp] at hp
    obtain ⟨hb, _, _⟩ := plannedE_ok hpp
    obtain ⟨hok, hsx, hsy⟩ := beginE_ok hb
    have := (best_min (bu := bu) hok hsy Q xs hsx (pl_mem hq.l) hq.pl hl).1
    rw [this, if_pos rfl] at hp; omega
  · rw [if_neg hpp] at hp
    have hne : beginE f bu [xs, ys] ≠ 112 := by
      unfold beginE statesE
      split <;> (try split) <;> (try split) <;> omega
    unfold plannedE at hp
    split at hp
    · split at hp <;> omega
    · exact hne hp

theorem lastOf_at : ∀ (L : List (List Int)) (xs : List Int), 0 < L.length → lastOf xs L = L[L.length - 1]?.getD [] := by
  intro L
  induction L with
  | nil => intro xs h; simp at h
  | cons s r ih =>
    intro xs _
    cases r with
    | nil => rfl
    | cons t r => rw [lastOf, ih s (by simp)]; simp
end
section
open Go.RowKit

/-- what a push leaves: states of the call's own -/
def KeepI (w w' : World) : Prop := ∀ (ad : Addr) (n : Nat) (y : List Int), Ints w (some ad) n y → Is3 w ad.block → Ints w' (some ad) n y ∧ Is3 w' ad.block
theorem KeepI.of_gr {w w' : World} (g : Gr w w') : KeepI w w' := fun _ _ _ h k => ⟨h.gr g, k.gr g⟩
theorem KeepI.trans {a b c : World} (h : KeepI a b) (k : KeepI b c) : KeepI a c := fun ad n y x z => k ad n y (h ad n y x z).1 (h ad n y x z).2

theorem one_cell_at {w : World} {g : Nat} {v : Value} {t : TypeId} (h : w.heap[g]? = some (.cells #[v] t)) : ∀ j u, [v][j]? = some u → w.cell? ((⟨g, 0, none⟩ : Addr).add j) = some u := by
  intro j u hj
  cases j with
  | zero => simp at hj; subst hj; exact cell_at h rfl
  | succ j => simp at hj

/-- append of one state to the list that a call collects -/
theorem wp_push {o : Oper} {a : Act} {w1 W : World} {K : Act → World → Prop} {Q : Exit → Act → World → Prop} {s x : Operand} {v : Value} {L : List (List Int)} {ad : Addr} {n c g : Nat} {y : List Int}
    (ho : o.op = .call { callee := .builtin .append, args := #[s, x], argTypes := #[22, 22] }) (hs : a.eval s = v) (hx : a.eval x = .slice (some ⟨g, 0, none⟩) 1 1)
    (hg : W.heap[g]? = some (.cells #[.slice (some ad) n c] 26)) (hO : OutR W w1.heap.size v L) (h1 : Gr w1 W) (hy : Ints W (some ad) n y) (h3 : Is3 W ad.block) (hl : L.length ≤ 1000000)
    (h : ∀ v' w', OutR w' w1.heap.size v' (L ++ [y]) → Gr w1 w' → KeepI W w' → K (a.put o.dst v') w') : o.wp Try.prog a W K Q := by
  obtain ⟨i0, hi, hz0, hz1, hz2⟩ := info_parts Try.info26
  obtain ⟨ov, hown, hrw⟩ := hO
  refine wp_append_own W s x 22 ho w1.heap.size 26 i0 (.slice none 0 0) 1 24 Try.underlying22 hi hz0 hz1 hz2 rfl (by decide) v L.length ov hs hown ⟨g, 0, none⟩ 1 1 [.slice (some ad) n c] hx rfl (one_cell_at hg) (one_one _ _ _) (by unfold maxLen; omega) (by omega) h1.size (fun v' w' hown' hgrow _ => ?_)
  have hO' := only_grown hgrow
  have hb : ∀ b, v.ownBlock = some b → w1.heap.size ≤ b ∧ ¬ Is3 W b := fun b e => own_block hown e
  refine h v' w' (OutR.push hown hrw hy h3 hown' hgrow) (((h1.only (fun b => w1.heap.size ≤ b)).trans (hO'.mono' (fun i e => (hb i e).1))).gr (fun i hi e => by omega)) (fun ad' n' y' hi' h3' => ?_)
  exact ⟨hi'.onlyAt hO' (fun ad2 e he => by cases e; exact (hb _ he).2 h3'), h3'.only hO' (fun he => (hb _ he).2 h3')⟩

theorem wpList_push {ops : Array Oper} {rest : List Oper} {o : Oper} {a : Act} {w1 W : World} {Q : Exit → Act → World → Prop} (hgd : o.guard = none) {s x : Operand} {v : Value} {L : List (List Int)} {ad : Addr} {n c g : Nat} {y : List Int}
    (ho : o.op = .call { callee := .builtin .append, args := #[s, x], argTypes := #[22, 22] }) (hs : a.eval s = v) (hx : a.eval x = .slice (some ⟨g, 0, none⟩) 1 1)
    (hg : W.heap[g]? = some (.cells #[.slice (some ad) n c] 26)) (hO : OutR W w1.heap.size v L) (h1 : Gr w1 W) (hy : Ints W (some ad) n y) (h3 : Is3 W ad.block) (hl : L.length ≤ 1000000)
    (h : ∀ v' w', OutR w' w1.heap.size v' (L ++ [y]) → Gr w1 w' → KeepI W w' → wpList Try.prog ops Q rest (a.put o.dst v') w') : wpList Try.prog ops Q (o :: rest) a W :=
  wpList_plain hgd fun K hK => wp_push ho hs hx hg hO h1 hy h3 hl (fun v' w' k1 k2 k3 => hK _ _ (h v' w' k1 k2 k3))

/-- 'append([]int(nil), xs...)' of some numbers -/
theorem wp_copy {o : Oper} {a : Act} {W : World} {K : Act → World → Prop} {Q : Exit → Act → World → Prop} {s x : Operand} {sa : Option Addr} {n c : Nat} {y : List Int}
    (ho : o.op = .call { callee := .builtin .append, args := #[s, x], argTypes := #[26, 26] }) (hs : a.eval s = .slice none 0 0) (hx : a.eval x = .slice sa n c) (hy : Ints W sa n y) (h0 : 0 < n) (hn : n ≤ 1000000)
    (h : ∀ g c' w', Ints w' (some ⟨g, 0, none⟩) n y → Is3 w' g → W.heap.size ≤ g → Gr W w' → K (a.put o.dst (.slice (some ⟨g, 0, none⟩) n c')) w') : o.wp Try.prog a W K Q := by
  obtain ⟨ad, rfl, hab, _⟩ := hy.at h0
  obtain ⟨i0, hi, hz0, hz1, hz2⟩ := info_parts Try.info3
  refine wp_append_own W s x 26 ho W.heap.size 3 i0 (.int .i64 0) 1 8 Try.underlying26 hi hz0 hz1 hz2 rfl (by decide) _ 0 [] hs (World.ownsRow_nil W _ 3 1) ad n c (y.map (Value.int .i64)) hx (by rw [List.length_map, hy.len, Nat.mul_one]) hy.cells (ints_one y) (by unfold maxLen; omega) (by omega) (Nat.le_refl _) (fun v' w' hown' hgrow _ => ?_)
  have hown2 : w'.ownsRow W.heap.size 3 1 v' n (y.map (Value.int .i64)) := by simpa using hown'
  obtain ⟨g, c', rfl, hge, _, hint, his3⟩ := ints_own hy.len (by omega) hown2 h0
  exact h g c' w' hint his3 hge ((only_grown hgrow).gr (fun i hi e => by simp [Value.ownBlock] at e))

theorem wpList_copy {ops : Array Oper} {rest : List Oper} {o : Oper} {a : Act} {W : World} {Q : Exit → Act → World → Prop} (hgd : o.guard = none) {s x : Operand} {sa : Option Addr} {n c : Nat} {y : List Int}
    (ho : o.op = .call { callee := .builtin .append, args := #[s, x], argTypes := #[26, 26] }) (hs : a.eval s = .slice none 0 0) (hx : a.eval x = .slice sa n c) (hy : Ints W sa n y) (h0 : 0 < n) (hn : n ≤ 1000000)
    (h : ∀ g c' w', Ints w' (some ⟨g, 0, none⟩) n y → Is3 w' g → W.heap.size ≤ g → Gr W w' → wpList Try.prog ops Q rest (a.put o.dst (.slice (some ⟨g, 0, none⟩) n c')) w') : wpList Try.prog ops Q (o :: rest) a W :=
  wpList_plain hgd fun K hK => wp_copy ho hs hx hy h0 hn (fun g c' w' k1 k2 k3 k4 => hK _ _ (h g c' w' k1 k2 k3 k4))

/-- a list of states from its j-th on -/
theorem RowsAt.tail1 {w : World} {ad : Addr} {n : Nat} {s : List Int} {L : List (List Int)} (h : RowsAt w (some ad) (n + 1) (s :: L)) : RowsAt w (some (ad.add 1)) n L := by
  refine ⟨by have := h.len; simpa using this, by have := h.lt; omega, fun j hj => ?_⟩
  obtain ⟨ad', a', n', c', e, hb, hc, hi⟩ := h.at (j := j + 1) (by omega)
  cases e
  refine ⟨ad.add 1, a', n', c', rfl, by rw [add_block]; exact hb, ?_, by simpa using hi⟩
  rw [Go.Deep.add_add, Nat.add_comm]; exact hc
theorem RowsAt.take {w : World} {a : Option Addr} {n : Nat} {L : List (List Int)} (h : RowsAt w a n L) {d : Nat} (hd : d ≤ n) : RowsAt w a d (L.take d) := by
  refine ⟨by have := h.len; simp; omega, by have := h.lt; omega, fun j hj => ?_⟩
  obtain ⟨ad', a', n', c', e, hb, hc, hi⟩ := h.at (j := j) (by omega)
  exact ⟨ad', a', n', c', e, hb, hc, by rw [List.getElem?_take_of_lt hj]; exact hi⟩

/-- the states of an update whose parked times are interrupted -/
def intr (T : List (List Int)) : List Int → List (List Int) → List Int → List (List Int)
  | _, _, [] => []
  | cur, [], _ :: r => cur :: intr T cur [] r
  | cur, s :: p, n :: r => if dur T cur s ≤ n then s :: intr T s p r else cur :: intr T cur (s :: p) r
def intE (f : Fl) (xs : List Int) (L : List (List Int)) (bu : Int) (ms : List Int) : Int := if (cpR f xs L bu).2 = 0 then (if 64 < ms.length then 1 else if ms.any (fun n => decide (n < 0)) then 1 else 0) else (cpR f xs L bu).2
def intV (f : Fl) (xs : List Int) (L : List (List Int)) (bu : Int) (ms : List Int) : List (List Int) := if intE f xs L bu ms = 0 then intr f.times xs L ms else []

/-- the first d states of a way, from the last one on -/
def bk (xs : List Int) (L : List (List Int)) : Nat → List (List Int)
  | 0 => []
  | d + 1 => pAt xs L d :: bk xs L d
def backE (f : Fl) (xs : List Int) (L : List (List Int)) (bu d : Int) : Int := if (cpR f xs L bu).2 = 0 then (if withinB d 0 L.length then 0 else 1) else (cpR f xs L bu).2
def backV (f : Fl) (xs : List Int) (L : List (List Int)) (bu d : Int) : List (List Int) := if backE f xs L bu d = 0 then bk xs L d.toNat else []

theorem PlOk.tail {f : Fl} {bu : Int} {xs s : List Int} {L : List (List Int)} (h : PlOk f bu xs (s :: L)) : PlOk f bu s L :=
  ⟨h.ok, by simpa using h.l 0 (by simp), fun j hj => by simpa using h.l (j + 1) (by simp; omega), h.pl.2.2, by have := h.n64; simp at this; omega⟩
theorem PlOk.step {f : Fl} {bu : Int} {xs s : List Int} {L : List (List Int)} (h : PlOk f bu xs (s :: L)) : stepsB f.times xs s bu = true ∧ StOk f s := ⟨h.pl.2.1, by simpa using h.l 0 (by simp)⟩
theorem PlOk.nil {f : Fl} {bu : Int} {xs s : List Int} {L : List (List Int)} (h : PlOk f bu xs (s :: L)) : PlOk f bu xs [] := ⟨h.ok, h.a, fun j hj => by simp at hj, trivial, by simp⟩

/-- what the list of a call is, where it returns -/
theorem OutR.post {w wr : World} {B : Nat} {v : Value} {L : List (List Int)} {code : Int} (h : OutR wr B v L) (g : Gr w wr) (hl : L.length < 1152921504606846976) : PlanPost w L code (.returned (.tuple #[v, .int .i64 code])) wr := by
  obtain ⟨a, c, rfl, hr, hc⟩ := h.rows hl
  exact ⟨a, _, c, rfl, hr, g, hc⟩
end
section
open Go.RowKit

/-- the slice v, of the call's own, holds the numbers xs -/
def OwnI (w : World) (B : Nat) (v : Value) (xs : List Int) : Prop := w.ownsRow B 3 1 v xs.length (xs.map (Value.int .i64))
theorem OwnI.nil (w : World) (B : Nat) : OwnI w B (.slice none 0 0) [] := World.ownsRow_nil w B 3 1
theorem OwnI.gr {w w' : World} {B : Nat} {v : Value} {xs : List Int} (h : OwnI w B v xs) (g : Gr w w') : OwnI w' B v xs := ownsRow_only h (g.only (fun _ => False)) (noc_none w)
theorem OwnI.ints {w : World} {B : Nat} {v : Value} {xs : List Int} (h : OwnI w B v xs) (hl : xs.length < 1152921504606846976) : ∃ a c, v = .slice a xs.length c ∧ Ints w a xs.length xs ∧ xs.length ≤ c := by
  rcases h.2 with ⟨rfl, h0⟩ | ⟨g, cap, cur, rfl, _, h3, hnc, _⟩
  · exact ⟨none, 0, by rw [h0], ⟨rfl, hl, fun j hj => by omega⟩, by omega⟩
  · refine ⟨some ⟨g, 0, none⟩, cap, rfl, ⟨rfl, hl, fun j hj => ?_⟩, hnc⟩
    exact ⟨⟨g, 0, none⟩, rfl, (Array.getElem?_eq_some_iff.1 h3).1, World.ownsRow.cells h (g := g) rfl j _ (by simp [hj])⟩
/-- append of one number to the list that a call collects -/
theorem wp_pushI {o : Oper} {a : Act} {w1 W : World} {K : Act → World → Prop} {Q : Exit → Act → World → Prop} {s x : Operand} {v : Value} {xs : List Int} {g : Nat} {z : Int}
    (ho : o.op = .call { callee := .builtin .append, args := #[s, x], argTypes := #[26, 26] }) (hs : a.eval s = v) (hx : a.eval x = .slice (some ⟨g, 0, none⟩) 1 1)
    (hg : W.heap[g]? = some (.cells #[.int .i64 z] 3)) (hO : OwnI W w1.heap.size v xs) (h1 : Gr w1 W) (hl : xs.length ≤ 1000000)
    (h : ∀ v' w', OwnI w' w1.heap.size v' (xs ++ [z]) → Gr w1 w' → K (a.put o.dst v') w') : o.wp Try.prog a W K Q := by
  obtain ⟨i0, hi, hz0, hz1, hz2⟩ := info_parts Try.info3
  refine wp_append_own W s x 26 ho w1.heap.size 3 i0 (.int .i64 0) 1 8 Try.underlying26 hi hz0 hz1 hz2 rfl (by decide) v xs.length (xs.map (Value.int .i64)) hs hO ⟨g, 0, none⟩ 1 1 [.int .i64 z] hx rfl (one_cell_at hg) (fun u hu => by simp at hu; subst hu; rfl) (by unfold maxLen; omega) (by omega) h1.size (fun v' w' hown' hgrow _ => ?_)
  have hO' := only_grown hgrow
  have hb : ∀ b, v.ownBlock = some b → w1.heap.size ≤ b := fun b e => by
    rcases hO.2 with ⟨rfl, _⟩ | ⟨g, cap, cur, rfl, h2, _⟩
    · simp [Value.ownBlock] at e
    · simp [Value.ownBlock] at e; subst e; exact h2
  refine h v' w' ?_ (((h1.only (fun b => w1.heap.size ≤ b)).trans (hO'.mono' (fun i e => hb i e))).gr (fun i hi e => by omega))
  unfold OwnI
  simpa using hown'
theorem wpList_pushI {ops : Array Oper} {rest : List Oper} {o : Oper} {a : Act} {w1 W : World} {Q : Exit → Act → World → Prop} (hgd : o.guard = none) {s x : Operand} {v : Value} {xs : List Int} {g : Nat} {z : Int}
    (ho : o.op = .call { callee := .builtin .append, args := #[s, x], argTypes := #[26, 26] }) (hs : a.eval s = v) (hx : a.eval x = .slice (some ⟨g, 0, none⟩) 1 1)
    (hg : W.heap[g]? = some (.cells #[.int .i64 z] 3)) (hO : OwnI W w1.heap.size v xs) (h1 : Gr w1 W) (hl : xs.length ≤ 1000000)
    (h : ∀ v' w', OwnI w' w1.heap.size v' (xs ++ [z]) → Gr w1 w' → wpList Try.prog ops Q rest (a.put o.dst v') w') : wpList Try.prog ops Q (o :: rest) a W :=
  wpList_plain hgd fun _ hK => wp_pushI ho hs hx hg hO h1 hl (fun v' w' k1 k2 => hK _ _ (h v' w' k1 k2))
end
section
open Go.RowKit
namespace X
variable {P : Program} {ops : Array Oper} {Q : Exit → Act → World → Prop} {o : Oper} {rest : List Oper} {A : Act} {W W' : World} {n : Nat} {L : List (Nat × Value)} {D : List Deferred}

def putS (L : List (Nat × Value)) : Option Nat → Value → List (Nat × Value)
  | some d, v => (d, v) :: L.filter (fun p => !(p.1 == d))
  | none, _ => L
def delS (L : List (Nat × Value)) : Option Nat → List (Nat × Value)
  | some d => L.filter (fun p => !(p.1 == d))
  | none => L
theorem _root_.Go.Proofs.Ytlilojpnhmfnaaa.Fr.put (h : Fr A n L D) {o : Option Nat} {v : Value} (hd : (match o with | some d => decide (d < n) | none => true) = true) : Fr (A.put o v) n (putS L o v) D := by
  cases o with
  | none => exact h
  | some d =>
    simp only [decide_eq_true_eq] at hd
    refine ⟨by simp [Act.put, h.sz], h.df, fun s x hm => ?_⟩
    simp only [putS, List.mem_cons, Prod.mk.injEq, List.mem_filter] at hm
    rcases hm with ⟨rfl, rfl⟩ | ⟨h1, h2⟩
    · simp only [Act.put]
      rw [Array.getElem?_setIfInBounds_self_of_lt (by rw [h.sz]; exact hd)]
    · have hne : d ≠ s := by intro e; subst e; simp at h2
      simp only [Act.put]
      rw [Array.getElem?_setIfInBounds_ne hne]
      exact h.get s x h1
theorem _root_.Go.Proofs.Ytlilojpnhmfnaaa.Fr.del (h : Fr A n L D) {o : Option Nat} {v : Value} (hd : (match o with | some d => decide (d < n) | none => true) = true) : Fr (A.put o v) n (delS L o) D := by
  cases o with
  | none => exact h
  | some d =>
    have := h.put (o := some d) (v := v) hd
    exact ⟨this.sz, this.df, fun s x hm => this.get s x (List.mem_cons_of_mem _ hm)⟩
theorem _root_.Go.Proofs.Ytlilojpnhmfnaaa.Fr.yl (h : Fr A n L D) {j d : Nat} {b : Bool} (hj : ((ops[j]?).bind fun o : Oper => o.dst) = some d) (hv : lookS L d = some (.bool b)) : yielded ops A.tmps j = some b := by
  cases hoj : ops[j]? with
  | none => rw [hoj] at hj; simp at hj
  | some oj =>
    rw [hoj] at hj
    have hdj : oj.dst = some d := by simpa using hj
    simp [yielded, hoj, hdj, h.look hv]

/-- an operation that gives a value -/
theorem pval {v : Value} (F : Fr A n L D) (hw : Region.wanted o (yielded ops A.tmps) = true) (hd : (match o.dst with | some d => decide (d < n) | none => true) = true) (hrun : (execOp A.eval o).run P W = .ok (.value v) W') (h : ∀ A', Fr A' n (putS L o.dst v) D → wpList P ops Q rest A' W') : wpList P ops Q (o :: rest) A W := by
  refine wpList_step fun K hK => ?_
  rw [if_pos hw]
  unfold Oper.wp
  rw [hrun]
  exact hK _ _ (h _ (F.put hd))
/-- an operation that gives none -/
theorem punit (F : Fr A n L D) (hw : Region.wanted o (yielded ops A.tmps) = true) (hd : (match o.dst with | some d => decide (d < n) | none => true) = true) (hrun : (execOp A.eval o).run P W = .ok .skip W') (h : ∀ A', Fr A' n (delS L o.dst) D → wpList P ops Q rest A' W') : wpList P ops Q (o :: rest) A W := by
  refine wpList_step fun K hK => ?_
  rw [if_pos hw]
  unfold Oper.wp
  rw [hrun]
  exact hK _ _ (h _ (F.del hd))
theorem pskip (F : Fr A n L D) (hw : Region.wanted o (yielded ops A.tmps) = false) (hd : (match o.dst with | some d => decide (d < n) | none => true) = true) (h : ∀ A', Fr A' n (delS L o.dst) D → wpList P ops Q rest A' W) : wpList P ops Q (o :: rest) A W := by
  refine wpList_step fun K hK => ?_
  rw [if_neg (by rw [hw]; decide)]
  exact hK _ _ (h _ (F.del hd))
theorem pcall {f : FuncId} {args : Array Value} {T : Ending → World → Prop} (F : Fr A n L D) (hw : Region.wanted o (yielded ops A.tmps) = true) (hd : (match o.dst with | some d => decide (d < n) | none => true) = true) (hrun : (execOp A.eval o).run P W = .ok (.enter f args) W) (hc : Calls P f args W T)
    (h : ∀ e W', T e W' → ∃ v, e = .returned v ∧ ∀ A', Fr A' n (putS L o.dst v) D → wpList P ops Q rest A' W') : wpList P ops Q (o :: rest) A W := by
  refine wpList_step fun K hK => ?_
  rw [if_pos hw]
  unfold Oper.wp
  rw [hrun]
  refine hc.mono fun e W' hT => ?_
  obtain ⟨v, rfl, h2⟩ := h e W' hT
  exact hK _ _ (h2 _ (F.put hd))
/-- behind a law that ends at the act with the value laid down -/
theorem pput {d : Option Nat} {v : Value} (F : Fr A n L D) (hd : (match d with | some d => decide (d < n) | none => true) = true) (h : ∀ A', Fr A' n (putS L d v) D → wpList P ops Q rest A' W) : wpList P ops Q rest (A.put d v) W := h _ (F.put hd)

theorem bs {ρ : Operand → Value} {t : TypeId} {m : Nat} {xs : Array (Nat × Operand)} {vs : List (Nat × Value)} {v : Value} (ho : o.op = .buildSlice t m xs) (hx : xs.toList.map (fun p => (p.1, ρ p.2)) = vs) (hr : (Instr.buildSlice t m vs.toArray).run P W = .ok v W') : (execOp ρ o).run P W = .ok (.value v) W' := by
  unfold execOp; rw [ho]
  have : (xs.map fun (i, x) => (i, ρ x)) = vs.toArray := by
    cases xs with
    | mk l => subst hx; simp
  simp only [this]; exact run_v hr
theorem kc {ρ : Operand → Value} {x : Operand} (v : Value) (h : ρ x = v) : ρ x = v := h
theorem c5 {W : World} {p : Addr} {v0 v1 v2 v3 v4 : Value} (h0 : W.cell? (p.add 0) = some v0) (h1 : W.cell? (p.add 1) = some v1) (h2 : W.cell? (p.add 2) = some v2) (h3 : W.cell? (p.add 3) = some v3) (h4 : W.cell? (p.add 4) = some v4) : ∀ j v, [v0, v1, v2, v3, v4][j]? = some v → W.cell? (p.add j) = some v := fun j v h => by
  match j with
  | 0 => simp at h; subst h; exact h0
  | 1 => simp at h; subst h; exact h1
  | 2 => simp at h; subst h; exact h2
  | 3 => simp at h; subst h; exact h3
  | 4 => simp at h; subst h; exact h4
  | j + 5 => simp at h
theorem b1 {ρ : Operand → Value} {x : Operand} {v : Value} (h : ρ x = v) : [(0, x)].map (fun p : Nat × Operand => (p.1, ρ p.2)) = [(0, v)] := by simp [h]
theorem b2 {ρ : Operand → Value} {x y : Operand} {v z : Value} (h : ρ x = v) (k : ρ y = z) : [(0, x), (1, y)].map (fun p : Nat × Operand => (p.1, ρ p.2)) = [(0, v), (1, z)] := by simp [h, k]
end X
theorem Try.bs26a (z : Int) (W : World) : (Instr.buildSlice 26 1 #[(0, .int .i64 z)]).run Try.prog W = .ok (.slice (some ⟨W.heap.size, 0, none⟩) 1 1) (W.alloc (.cells #[.int .i64 z] 3)) := by kernel_rfl
theorem Try.bs22a (a : Option Addr) (n c : Nat) (W : World) : (Instr.buildSlice 22 1 #[(0, .slice a n c)]).run Try.prog W = .ok (.slice (some ⟨W.heap.size, 0, none⟩) 1 1) (W.alloc (.cells #[.slice a n c] 26)) := by kernel_rfl
theorem Try.bs22b (a b : Option Addr) (n c m d : Nat) (W : World) : (Instr.buildSlice 22 2 #[(0, .slice a n c), (1, .slice b m d)]).run Try.prog W = .ok (.slice (some ⟨W.heap.size, 0, none⟩) 2 2) (W.alloc (.cells #[.slice a n c, .slice b m d] 26)) := by kernel_rfl
end
end Go.Proofs.Ytlilojpnhmfnaaa
