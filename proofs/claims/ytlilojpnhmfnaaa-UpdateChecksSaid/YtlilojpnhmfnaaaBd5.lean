/- Several texts of this claim in one file. (1) Contract: Plan, where its arguments are in order. (2) Contract: Plan. (3) Least: plain words, and what its closure finds in memory. (4) Least: a round of its closure's loop. (5) Least: the contract of its closure. (6) Contract: Least. (7) Plain law: a plan within a budget exists exactly if the least budget is not greater. No program in sight. (8) The example of the chapter: what Plan and Least return there; sameStates, Example and works. (9) The example: Example and works. (10) The look at the example: works returns true. (11) CheckPlan: plain words, and the list of a state and a plan. (12) Plain law: the planner's way is a plan, and no plan is shorter. No program in sight. -/
import Derived.Test.YtlilojpnhmfnaaaBd4
import Derived.Maps.Own
import Derived.WalkLawsBesides
import Derived.Deep.Upon
namespace Go.Proofs.Ytlilojpnhmfnaaa
section
open Go.RowKit

theorem plannedE_ok {f : Fl} {bu : Int} {a b : List Int} (h : plannedE f a b bu = 0) : beginE f bu [a, b] = 0 ∧ worksB f a = true ∧ worksB f b = true := by
  unfold plannedE at h
  split at h
  · rename_i hb
    split at h
    · rename_i hw
      simp at hw
      exact ⟨hb, hw.1, hw.2⟩
    · simp at h
  · rename_i hb; exact absurd h hb

theorem memo_new (w : World) (G : List Int → Value → Prop) : Memo (w.alloc (.map #[] 0)) w.heap.size G := ⟨#[], 0, World.alloc_heap_new _ _, fun e he => by simp at he, by simp⟩

/-- a new planner -/
theorem planner_new {w : World} {ta ca b : Option Addr} {tn tc cn cc n d : Nat} {f : Fl} {ys : List Int} {bu : Int} (hf : FlAt w ta tn ca cn f) (hy : Ints w b n ys) :
    PInv ⟨w.heap.size + 1, w.heap.size, ta, tn, tc, ca, cn, cc, b, d, n, f, ys, bu⟩ (fun _ => False) ((w.alloc (.map #[] 0)).alloc (.cells #[.slice ta tn tc, .slice ca cn cc, .slice b n d, .int .i64 bu, .map (some w.heap.size)] 77)) := by
  have g2 := (Gr.alloc w (.map #[] 0)).allocR (.cells #[.slice ta tn tc, .slice ca cn cc, .slice b n d, .int .i64 bu, .map (some w.heap.size)] 77)
  have g3 := Gr.alloc (w.alloc (.map #[] 0)) (.cells #[.slice ta tn tc, .slice ca cn cc, .slice b n d, .int .i64 bu, .map (some w.heap.size)] 77)
  have s1 : w.heap.size + 1 = (w.alloc (.map #[] 0)).heap.size := by simp
  have hc : ∀ j v, (#[Value.slice ta tn tc, .slice ca cn cc, .slice b n d, .int .i64 bu, .map (some w.heap.size)] : Array Value)[j]? = some v → ((w.alloc (.map #[] 0)).alloc (.cells #[.slice ta tn tc, .slice ca cn cc, .slice b n d, .int .i64 bu, .map (some w.heap.size)] 77)).cell? ⟨w.heap.size + 1, j, none⟩ = some v := fun j v h => by rw [s1]; exact cell_new h
  exact ⟨hc 0 _ rfl, hc 1 _ rfl, hc 2 _ rfl, hc 3 _ rfl, hc 4 _ rfl, hf.gr g2, hy.gr g2, (memo_new w _).mono (g3.below.block _ (by simp)) (fun _ _ h => h)⟩

theorem Try.field79_3 (w : World) (st ti : Int) (xa : Option Addr) (xk xc : Nat) (xb : Bool) : (Instr.field 79 (.agg #[.int .i64 st, .int .i64 ti, .slice xa xk xc, .bool xb]) 3).run Try.prog w = .ok (.bool xb) w := by kernel_rfl
theorem Try.field79_2 (w : World) (st ti : Int) (xa : Option Addr) (xk xc : Nat) (xb : Bool) : (Instr.field 79 (.agg #[.int .i64 st, .int .i64 ti, .slice xa xk xc, .bool xb]) 2).run Try.prog w = .ok (.slice xa xk xc) w := by kernel_rfl

theorem one_cell (w : World) (v : Value) (t : TypeId) : ∀ j u, [v][j]? = some u → (w.alloc (.cells #[v] t)).cell? ((⟨w.heap.size, 0, none⟩ : Addr).add j) = some u := by
  intro j u hj
  cases j with
  | zero => simp at hj; subst hj; exact cell_new rfl
  | succ j => simp at hj
theorem one_one (ad : Option Addr) (n c : Nat) : ∀ u ∈ [Value.slice ad n c], u.oneCell' = true := by
  intro u hu
  simp at hu
  subst hu
  rfl

def sliceLen : Value → Nat
  | .slice _ k _ => k
  | _ => 0

theorem PlanR.len {q : PP} (H : PHyp q) {W1 wr : World} {fr cur : List Int} {done : List (List Int)} {sv v : Value} (h : PlanR q W1 fr cur done sv v wr) (hfr : StOk q.f fr) : sliceLen v = done.length ∧ done.length + (pathV q.f q.to q.bu cur).length ≤ 18 := by
  constructor
  · obtain ⟨xs, h1, _⟩ := h.out
    rcases h1.2 with ⟨rfl, h0⟩ | ⟨g, cap, cc, rfl, _⟩
    · rw [h0]; rfl
    · rfl
  · have h1 := congrArg List.length h.tot
    rw [List.length_append] at h1
    rw [h1]
    have h2 := pathF_len q.f q.to q.bu (gap fr q.to) fr
    have h3 := gapTo_bd H.ok hfr H.sto q.to.length (by rw [H.sto.len]; exact Nat.le_refl _)
    have h4 := H.ok.n6
    have h5 := H.sto.len
    show (pathF q.f q.to q.bu (gap fr q.to) fr).length ≤ 18
    unfold gap at h2 ⊢
    omega

/-- best has been asked for the next state -/
theorem PlanR.call {q : PP} {W1 wr w' : World} {fr cur : List Int} {done : List (List Int)} {sv v : Value} (h : PlanR q W1 fr cur done sv v wr) (hI : PInv q (fun _ => False) W1) (g : Only (fun b => b = q.m) wr w') (hI' : PInv q (fun _ => False) w') : PlanR q W1 fr cur done sv v w' := by
  have hn := (h.inv hI).noc
  refine ⟨h.on.trans (g.mono' (fun i e => .inl e)), hI'.memo, h.out.only g hn, ?_, h.st, h.is, h.tot⟩
  obtain ⟨a, c, h1, h2, h3⟩ := h.sa
  exact ⟨a, c, h1, h2.only g hn, fun ad e => by
    rcases h3 ad e with h | h
    · exact .inl h
    · exact .inr (h.onlyN g hn)⟩

/-- one state more -/
theorem PlanR.push {q : PP} {W1 wr w' : World} {fr cur nx : List Int} {done : List (List Int)} {sv v v' : Value} {ov : List Value} {na ad : Addr} {nc c : Nat} (h : PlanR q W1 fr cur done sv v wr)
    (h1 : wr.ownsRow W1.heap.size 26 1 v done.length ov) (h2 : ∀ j, j < done.length → ∃ ad n c, ov[j]? = some (.slice (some ad) n c) ∧ Ints wr (some ad) n (done[j]?.getD []) ∧ Is3 wr ad.block)
    (hm : q.m < W1.heap.size) (hna : Ints wr (some na) q.n nx) (hna3 : Is3 wr na.block) (hx : Ints wr (some ad) q.n nx) (hx3 : Is3 wr ad.block)
    (hown : w'.ownsRow W1.heap.size 26 1 v' (done.length + 1) (ov ++ [.slice (some ad) q.n c])) (hgrow : wr.grownBy w' v.ownBlock) (hst : StOk q.f nx) (his : (bestV q.f q.to q.bu nx).is = true)
    (htot : (done ++ [nx]) ++ pathV q.f q.to q.bu nx = pathV q.f q.to q.bu fr) : PlanR q W1 fr nx (done ++ [nx]) (.slice (some na) q.n nc) v' w' := by
  have hO := only_grown hgrow
  have hb : ∀ b, v.ownBlock = some b → W1.heap.size ≤ b ∧ ¬ Is3 wr b := fun b e => own_block h1 e
  refine ⟨h.on.trans (hO.mono' (fun i e => .inr (hb i e).1)), ?_, OutR.push h1 h2 hx hx3 hown hgrow, ⟨some na, nc, rfl, ?_, fun ad' e => ?_⟩, hst, his, htot⟩
  · refine h.memo.mono (hO.block _ h.memo.lt (fun e => by have := (hb _ e).1; omega)) (fun s v hv => ⟨hv.1, ?_⟩)
    obtain ⟨a', k', c', k1, k2, k3⟩ := hv.2
    exact ⟨a', k', c', k1, k2.onlyAt hO (fun ad' e he => (hb _ he).2 (k3 ad' e).2), fun ad' e => ⟨(k3 ad' e).1, (k3 ad' e).2.only hO (fun he => (hb _ he).2 (k3 ad' e).2)⟩⟩
  · exact hna.onlyAt hO (fun ad' e he => by cases e; exact (hb _ he).2 hna3)
  · cases e
    exact .inr (hna3.only hO (fun he => (hb _ he).2 hna3))

set_option maxRecDepth 100000 in
set_option maxHeartbeats 4000000 in
theorem plan_good (ta ca a b : Option Addr) (tn tc cn cc n c d : Nat) (f : Fl) (xs ys : List Int) (bu : Int) (w : World) (hf : FlAt w ta tn ca cn f) (hx : Ints w a n xs) (hy : Ints w b n ys) (he : plannedE f xs ys bu = 0) :
    Calls Try.prog 17 #[.agg #[.slice ta tn tc, .slice ca cn cc], .slice a n c, .slice b n d, .int .i64 bu] w (PlanPost w (planV f xs ys bu) (planE f xs ys bu)) := by
  have h2 := pb w (.slice ta tn tc) (.slice ca cn cc) (.slice a n c) (.slice b n d)
  obtain ⟨w2, hw2⟩ : ∃ w2, (w.alloc (.cells #[.slice ta tn tc, .slice ca cn cc] 25)).alloc (.cells #[.slice a n c, .slice b n d] 26) = w2 := ⟨_, rfl⟩
  rw [hw2] at h2
  have hcon := Lib.hid (begin_any ta ca _ tn tc cn cc 2 2 f bu [xs, ys] w2 (hf.gr h2.gr) (rows2 (c := c) (d := d) h2.sz h2.d0 h2.d1 (hx.gr h2.gr) (hy.gr h2.gr)))
  obtain ⟨hb, hwx, hwy⟩ := plannedE_ok he
  obtain ⟨hok, hsx, hsy⟩ := beginE_ok hb
  have hbb : (beginE f bu [xs, ys] != 0) = false := by simp [hb]
  have HP1 : Hid ((bestV f ys bu xs).is = false → planE f xs ys bu = 112 ∧ planV f xs ys bu = []) := Lib.hid (fun h => by
    have : planE f xs ys bu = 112 := by unfold planE; rw [if_pos he, h]; rfl
    exact ⟨this, by unfold planV; rw [this]; rfl⟩)
  have HP2 : Hid ((bestV f ys bu xs).is = true → planE f xs ys bu = 0 ∧ planV f xs ys bu = pathV f ys bu xs) := Lib.hid (fun h => by
    have : planE f xs ys bu = 0 := by unfold planE; rw [if_pos he, h]; rfl
    exact ⟨this, by unfold planV; rw [this]; rfl⟩)
  have hnt : n = f.times.length := by rw [← hsx.len, hx.len]
  have H : ∀ bp m, PHyp ⟨bp, m, ta, tn, tc, ca, cn, cc, b, d, n, f, ys, bu⟩ := fun bp m => ⟨hok, hsy, hnt⟩
  have hn1 : 0 < n := by have := hok.n1; omega
  have hn6 : n ≤ 6 := by have := hok.n6; omega
  have HNT := Lib.hid hnt
  have HB := Lib.hid hb
  clear hb he hnt
  have c0 := h2.c0
  have c1 := h2.c1
  have hmm := @run_makeMap Try.prog
  have hfl3 := Try.field79_3
  have hfl2 := Try.field79_2
  go_enter Try.func17, Try.ntmps17
  go_wp2_with fail
  refine hcon.out.mono ?_
  rintro e w3 ⟨rfl, g3⟩
  clear hw2
  have G3 := h2.gr.trans g3
  have e0 := (g3.cell (lt_cell c0)).trans c0
  have e1 := (g3.cell (lt_cell c1)).trans c1
  have HW := works_any ta ca a tn tc cn cc n c f xs w3 (hf.gr G3) hok (hx.gr G3) hsx
  rw [hwx] at HW
  have HWh := Lib.hid HW
  clear HW
  go_wp2_with fail
  refine HWh.out.mono ?_
  rintro e w4 ⟨rfl, g4⟩
  have G4 := G3.trans g4
  have HW2 := works_any ta ca b tn tc cn cc n d f ys w4 (hf.gr G4) hok (hy.gr G4) hsy
  rw [hwy] at HW2
  have HW2h := Lib.hid HW2
  clear HW2
  have e0' := (g4.cell (lt_cell e0)).trans e0
  have e1' := (g4.cell (lt_cell e1)).trans e1
  go_wp2_with fail
  refine HW2h.out.mono ?_
  rintro e w5 ⟨rfl, g5⟩
  have G5 := G4.trans g5
  have e0'' := (g5.cell (lt_cell e0')).trans e0'
  have e1'' := (g5.cell (lt_cell e1')).trans e1'
  clear e0 e1 e0' e1' c0 c1 g3 g4 g5 G3 G4 HWh HW2h hcon h2
  have hI := planner_new (tc := tc) (cc := cc) (d := d) (bu := bu) (hf.gr G5) (hy.gr G5)
  have hs1 : ((w5.alloc (.map #[] 0)).alloc (.cells #[.slice ta tn tc, .slice ca cn cc, .slice b n d, .int .i64 bu, .map (some w5.heap.size)] 77)).heap.size = w5.heap.size + 2 := by simp
  have g7 := (Gr.alloc w5 (.map #[] 0)).allocR (.cells #[.slice ta tn tc, .slice ca cn cc, .slice b n d, .int .i64 bu, .map (some w5.heap.size)] 77)
  obtain ⟨W1, hW1⟩ : ∃ W1, (w5.alloc (.map #[] 0)).alloc (.cells #[.slice ta tn tc, .slice ca cn cc, .slice b n d, .int .i64 bu, .map (some w5.heap.size)] 77) = W1 := ⟨_, rfl⟩
  rw [hW1] at hI hs1 g7
  have hx1 := hx.gr (G5.trans g7)
  have HBE := Lib.hid (best_any _ (H (w5.heap.size + 1) w5.heap.size) (gap xs ys) (fun _ => False) xs W1 a c (Nat.le_refl _) hsx hI hx1 (fun _ h => h.elim))
  have HS1 := Lib.hid hs1
  have hmW : w5.heap.size < W1.heap.size := by omega
  clear hs1
  go_wp2_with fail
  refine HBE.out.mono ?_
  rintro e w8 ⟨v, rfl, ⟨ra, rk, rc, rfl, hri, hr3⟩, hI8, hO8⟩
  dsimp only
  have hGW : ∀ w', Only (fun b => b = w5.heap.size ∨ W1.heap.size ≤ b) W1 w' → Gr w w' := fun w' h => (((G5.trans g7).only _).trans h).gr (fun i hi e => by have := G5.size; have := g7.size; omega)
  clear hW1 e0'' e1'' HBE
  cases hbi : (bestV f ys bu xs).is with
  | false =>
    have hp := HP1.out hbi
    have HPP := Lib.hid hp
    clear hp HP1 HP2
    go_wp2_with fail
    go_ret2
    refine ⟨none, 0, 0, by rw [HPP.out.1]; rfl, by rw [HPP.out.2]; exact RowsAt.nil _, hGW _ (hO8.mono' (fun i e => .inl e))⟩
  | true =>
    have hp := HP2.out hbi
    have HPP := Lib.hid hp
    have hR0 : PlanR ⟨w5.heap.size + 1, w5.heap.size, ta, tn, tc, ca, cn, cc, b, d, n, f, ys, bu⟩ W1 xs xs [] (.slice a n c) (.slice none 0 0) w8 :=
      ⟨hO8.mono' (fun i e => .inl e), hI8.memo, OutR.nil _ _, ⟨a, c, rfl, hx1.only hO8 hI.noc, fun ad e => by
        cases e
        obtain ⟨_, e, hl, _⟩ := hx1.at hn1
        cases e
        exact .inl hl⟩, hsx, hbi, rfl⟩
    have HBI := Lib.hid hbi
    clear hp HP1 HP2 hbi hri hr3 hI8 hO8
    go_wp2_with fail
    go_loopw [12, 8] (fun sv v wr => ∃ cur done, PlanR ⟨w5.heap.size + 1, w5.heap.size, ta, tn, tc, ca, cn, cc, b, d, n, f, ys, bu⟩ W1 xs cur done sv v wr) (fun _ v _ => 18 - sliceLen v)
    case atStart => exact ⟨xs, [], hR0⟩
    case round =>
      obtain ⟨cur, done, hR⟩ := hrel
      obtain ⟨hl1, hl2⟩ := hR.len (H _ _) hsx
      have hIr := hR.inv hI
      have hyr : Ints wr b n ys := hIr.ito
      have hsa := hR.sa
      dsimp only at hsa
      obtain ⟨sa, sc, rfl, hsI, hsB⟩ := hsa
      have HLEN := Lib.hid hl1
      clear hl1
      have hcl : cur.length = ys.length := by rw [hsI.len, hyr.len]
      by_cases hcur : cur = ys
      · have hq1 := equal_any sa b n sc n d cur ys wr hsI hyr
        rw [decide_eq_true hcur] at hq1
        have HEQ := Lib.hid hq1
        clear hq1
        go_wp2_with fail
        refine HEQ.out.mono ?_
        rintro e w9 ⟨rfl, k, rfl⟩
        have hR9 := hR.gr (Gr.drewN wr k)
        obtain ⟨oa, oc, rfl, hrows⟩ := hR9.out.rows (by omega)
        have hdone : done = pathV f ys bu xs := by have := hR.tot; rw [hcur, pathV_end, List.append_nil] at this; exact this
        have HDN := Lib.hid hdone
        clear hdone
        go_wp2_with fail
        go_ret2
        refine ⟨oa, done.length, oc, by rw [HPP.out.1]; rfl, by rw [HPP.out.2, ← HDN.out]; exact hrows, hGW _ hR9.on⟩
      · have hq1 := equal_any sa b n sc n d cur ys wr hsI hyr
        rw [decide_eq_false hcur] at hq1
        have HEQ := Lib.hid hq1
        have HCUR := Lib.hid hcur
        clear hq1 hcur
        go_wp2_with fail
        refine HEQ.out.mono ?_
        rintro e w9 ⟨rfl, k, rfl⟩
        have hR9 := hR.gr (Gr.drewN wr k)
        have HBE := Lib.hid (best_any _ (H (w5.heap.size + 1) w5.heap.size) (gap cur ys) (fun _ => False) cur (wr.drewN k) sa sc (Nat.le_refl _) hR.st (hR9.inv hI) (hsI.gr (Gr.drewN wr k)) (fun _ h => h.elim))
        go_wp2_with fail
        refine HBE.out.mono ?_
        rintro e w10 ⟨v10, rfl, ⟨na, nk, nc, rfl, hni, hn3⟩, hI10, hO10⟩
        dsimp only at hni ⊢
        have hR10 := hR9.call hI hO10 hI10
        obtain ⟨hm1, hm2, hm3⟩ := bestV_next hcl HCUR.out hR.is
        have hbt := (enum_between hm1).1
        have hsn : StOk f (bestV f ys bu cur).nxt := hR.st.btw hsy hbt
        have hnk : nk = n := by rw [← hni.len, hbt.len, hsI.len]
        subst hnk
        obtain ⟨na, rfl, _, _⟩ := hni.at hn1
        have hna3 := (hn3 na rfl).2
        have htot : Hid ((done ++ [(bestV f ys bu cur).nxt]) ++ pathV f ys bu (bestV f ys bu cur).nxt = pathV f ys bu xs) := Lib.hid (by
          have := hR.tot
          dsimp only at this
          rw [pathV_step hcl HCUR.out hR.is] at this
          rw [← this]; simp)
        have hpl : 1 ≤ (pathV f ys bu cur).length := by rw [pathV_step hcl HCUR.out hR.is]; simp
        have HCL := Lib.hid (clone_any (some na) nk nc (bestV f ys bu cur).nxt w10 hni hn1 (by omega))
        have HM3 := Lib.hid hm3
        have HSN := Lib.hid hsn
        clear hR9 hR hIr hsI hyr hcl hI10 hO10 HBE HEQ hm1 hm2 hm3 hbt hsn hn3 hsB
        generalize (bestV f ys bu cur).nxt = nx at *
        go_wp2_with fail
        refine HCL.out.mono ?_
        rintro e w11 ⟨g, gc, rfl, hge, hgi, hg11, hg3⟩
        rw [hni.len] at hgi ⊢
        have hR11 := hR10.gr (hg11.allocR (.cells #[.slice (some ⟨g, 0, none⟩) nk gc] 26))
        have hna' := hni.gr (hg11.allocR (.cells #[.slice (some ⟨g, 0, none⟩) nk gc] 26))
        have hna3' := hna3.gr (hg11.allocR (.cells #[.slice (some ⟨g, 0, none⟩) nk gc] 26))
        have hgi' := hgi.gr (Gr.alloc w11 (.cells #[.slice (some ⟨g, 0, none⟩) nk gc] 26))
        have hg3' := hg3.gr (Gr.alloc w11 (.cells #[.slice (some ⟨g, 0, none⟩) nk gc] 26))
        obtain ⟨ov, hown, hrw⟩ := hR11.out
        have HOWN := Lib.hid hown
        have HRW := Lib.hid hrw
        have hszW := hR11.on.size
        obtain ⟨i0, hi, hz0, hz1, hz2⟩ := info_parts Try.info26
        have hc3 : done.length + 1 ≤ maxLen := by unfold maxLen; omega
        have hc4 : (done.length + 1) * 24 ≤ 140737488355328 := by omega
        clear hown hrw hR10 hni hna3 hgi hg3 HCL
        go_wp2_with (at_builtin; refine wpList_append_own _ rfl _ _ 22 rfl W1.heap.size 26 i0 (.slice none 0 0) 1 24 Try.underlying22 hi hz0 hz1 hz2 rfl (by decide) _ _ _ rfl HOWN.out ⟨w11.heap.size, 0, none⟩ 1 1 [.slice (some ⟨g, 0, none⟩) nk gc] rfl rfl (one_cell _ _ _) (one_one _ _ _) hc3 hc4 hszW ?_; intro v' w12 hown' hgrow _)
        have hR12 := hR11.push (nc := nc) HOWN.out HRW.out hmW hna' hna3' hgi' hg3' hown' hgrow HSN.out HM3.out htot.out
        have hl12 := Lib.hid (hR12.len (H _ _) hsx).1
        clear hown' hgrow HOWN HRW hR11 hna' hna3' hgi' hg3'
        go_wp2_with fail
        go_roundw
        case rel => exact ⟨nx, done ++ [nx], hR12⟩
        case measure =>
          have h1 := HLEN.out
          have h2 := hl12.out
          simp at h2
          simp
          omega
end
section
open Go.RowKit

theorem plan_any (ta ca a b : Option Addr) (tn tc cn cc n c m d : Nat) (f : Fl) (xs ys : List Int) (bu : Int) (w : World) (hf : FlAt w ta tn ca cn f) (hx : Ints w a n xs) (hy : Ints w b m ys) :
    Calls Try.prog 17 #[.agg #[.slice ta tn tc, .slice ca cn cc], .slice a n c, .slice b m d, .int .i64 bu] w (PlanPost w (planV f xs ys bu) (planE f xs ys bu)) := by
  by_cases he : plannedE f xs ys bu = 0
  · obtain ⟨hb, _, _⟩ := plannedE_ok he
    obtain ⟨_, hsx, hsy⟩ := beginE_ok hb
    obtain rfl : n = m := by rw [← hx.len, ← hy.len, hsx.len, hsy.len]
    exact plan_good ta ca a b tn tc cn cc n c d f xs ys bu w hf hx hy he
  · have h1 : planE f xs ys bu = plannedE f xs ys bu := by unfold planE; rw [if_neg he]
    have h2 : planV f xs ys bu = [] := by unfold planV; rw [h1, if_neg he]
    rw [h1, h2]
    exact plan_bad ta ca a b tn tc cn cc n c m d f xs ys bu w hf hx hy he
end
section
set_option linter.unusedVariables false
open Go.RowKit

def leastStep (T : List (List Int)) (s : List Int) (rec : List Int → Int) (best : Int) (s' : List Int) : Int :=
  if 0 < dur T s s' ∧ dur T s s' < best then min best (max (dur T s s') (rec s')) else best
def leastF (f : Fl) (to : List Int) : Nat → List Int → Int
  | 0, _ => 0
  | k + 1, s => if s = to then 0 else (enum f s to s.length []).foldl (leastStep f.times s (leastF f to k)) (dur f.times s to)
def leastV (f : Fl) (to s : List Int) : Int := leastF f to (gap s to) s

theorem leastStep_congr {T : List (List Int)} {s s' : List Int} {r r' : List Int → Int} (h : 0 < dur T s s' → r s' = r' s') (b : Int) : leastStep T s r b s' = leastStep T s r' b s' := by
  unfold leastStep
  by_cases hc : 0 < dur T s s' ∧ dur T s s' < b
  · rw [if_pos hc, if_pos hc, h hc.1]
  · rw [if_neg hc, if_neg hc]

theorem dur_self (T : List (List Int)) (s : List Int) : dur T s s = 0 := by
  unfold dur
  have : ∀ k, durTo T s s k = 0 := by
    intro k
    induction k with
    | zero => rfl
    | succ k ih => simp [durTo, ih]
  exact this _

theorem leastF_fuel {f : Fl} {to : List Int} : ∀ (k k' : Nat) (s : List Int), s.length = to.length → aboveV to s = true → gap s to ≤ k → gap s to ≤ k' → leastF f to k s = leastF f to k' s := by
  intro k
  induction k with
  | zero =>
    intro k' s hl ha h0 _
    have hs := above_gap_zero hl ha (by omega)
    cases k' <;> simp [leastF, hs]
  | succ k ih =>
    intro k' s hl ha h0 h1
    by_cases hs : s = to
    · cases k' <;> simp [leastF, hs]
    · cases k' with
      | zero => exact absurd (above_gap_zero hl ha (by omega)) hs
      | succ k' =>
        simp only [leastF, if_neg hs]
        refine foldl_congr _ _ (fun x hx b => leastStep_congr (fun hd => ?_) b)
        have hb := (enum_between hx).1
        have hne : s ≠ x := fun e => by subst e; rw [dur_self] at hd; omega
        have hlt := gap_lt (hl := hl) hb hne
        exact ih k' x (by rw [hb.len, hl]) (aboveV_true (n := to.length) rfl (fun j hj => hb.le j (by omega))) (by omega) (by omega)

theorem leastV_eq {f : Fl} {to s : List Int} (hl : s.length = to.length) (ha : aboveV to s = true) (hs : ¬ s = to) :
    leastV f to s = (enum f s to s.length []).foldl (leastStep f.times s (leastV f to)) (dur f.times s to) := by
  have : leastV f to s = leastF f to (gap s to + 1) s := leastF_fuel _ _ s hl ha (Nat.le_refl _) (by omega)
  rw [this]
  simp only [leastF, if_neg hs]
  refine foldl_congr _ _ (fun x hx b => leastStep_congr (fun hd => ?_) b)
  have hb := (enum_between hx).1
  have hne : s ≠ x := fun e => by subst e; rw [dur_self] at hd; omega
  have hlt := gap_lt (hl := hl) hb hne
  exact leastF_fuel _ _ x (by rw [hb.len, hl]) (aboveV_true (n := to.length) rfl (fun j hj => hb.le j (by omega))) (by omega) (Nat.le_refl _)
theorem leastV_end (f : Fl) (to : List Int) : leastV f to to = 0 := by unfold leastV; cases gap to to <;> simp [leastF]

theorem dur_bd {f : Fl} {s t : List Int} (hok : FlOk f) (hs : StOk f s) (ht : StOk f t) (ha : aboveV t s = true) : 0 ≤ dur f.times s t ∧ dur f.times s t ≤ 60000 := by
  have hab := aboveV_le ha
  have hdd := durTo_bd hok (fun c hc => (hs.ver c hc).1) ht (fun c hc => hab c (by rw [ht.len]; exact hc)) f.times.length (Nat.le_refl _)
  have := hok.n6
  unfold dur
  rw [ht.len]
  omega

/-- the data of Least's closure -/
structure LP where
  bto : Nat
  bl : Nat
  bf : Nat
  bb : Nat
  m : Nat
  ta : Option Addr
  tn : Nat
  tc : Nat
  ca : Option Addr
  cn : Nat
  cc : Nat
  toa : Option Addr
  toc : Nat
  n : Nat
  f : Fl
  to : List Int

structure LInv (q : LP) (W : World) : Prop where
  c0 : W.cell? ⟨q.bf, 0, none⟩ = some (.slice q.ta q.tn q.tc)
  c1 : W.cell? ⟨q.bf, 1, none⟩ = some (.slice q.ca q.cn q.cc)
  c2 : W.cell? ⟨q.bto, 0, none⟩ = some (.slice q.toa q.n q.toc)
  c3 : W.cell? ⟨q.bl, 0, none⟩ = some (.map (some q.m))
  c4 : W.cell? ⟨q.bb, 0, none⟩ = some (.func (.func 56) #[] #[.pointer (some ⟨q.bto, 0, none⟩), .pointer (some ⟨q.bl, 0, none⟩), .pointer (some ⟨q.bf, 0, none⟩), .pointer (some ⟨q.bb, 0, none⟩)])
  fl : FlAt W q.ta q.tn q.ca q.cn q.f
  ito : Ints W q.toa q.n q.to
  memo : Memo W q.m (fun s v => s.length = q.n ∧ v = .int .i64 (leastV q.f q.to s))

structure LHyp (q : LP) : Prop where
  ok : FlOk q.f
  sto : StOk q.f q.to
  nt : q.n = q.f.times.length

theorem LInv.noc {q : LP} {W : World} (h : LInv q W) : NoCells (fun b => b = q.m ∨ W.heap.size ≤ b) W := by
  obtain ⟨es, clk, hm, _, _⟩ := h.memo
  intro b cs t fr hs hb
  rcases hs with hs | hs
  · subst hs; rw [hm] at hb; cases hb
  · have := (Array.getElem?_eq_some_iff.1 hb).1; omega
theorem LInv.of {q : LP} {W W' : World} (h : LInv q W) (g : Only (fun b => b = q.m ∨ W.heap.size ≤ b) W W') (hm : Memo W' q.m (fun s v => s.length = q.n ∧ v = .int .i64 (leastV q.f q.to s))) : LInv q W' :=
  ⟨g.cellN h.noc h.c0, g.cellN h.noc h.c1, g.cellN h.noc h.c2, g.cellN h.noc h.c3, g.cellN h.noc h.c4, h.fl.only g h.noc, h.ito.only g h.noc, hm⟩
theorem LInv.gr {q : LP} {W W' : World} (h : LInv q W) (g : Gr W W') : LInv q W' := h.of (g.only _) (h.memo.mono (g.below.block _ h.memo.lt) (fun _ _ hv => hv))

def LPost (q : LP) (W : World) (s : List Int) (e : Ending) (W' : World) : Prop := e = .returned (.int .i64 (leastV q.f q.to s)) ∧ LInv q W' ∧ Only (fun b => b = q.m) W W'

theorem LInv.base {q : LP} {W : World} {a : Option Addr} {s : List Int} (H : LHyp q) (h : LInv q W) (hs : Ints W a q.n s) (hst : StOk q.f s) : SBase W (fun b => b = q.m ∨ W.heap.size ≤ b) q.f q.ta q.tn q.ca q.cn a q.toa q.n s q.to :=
  ⟨H.ok, h.fl, hs, h.ito, h.noc, fun b hb => .inr hb, by have := H.ok.n1; have := H.nt; omega, H.nt, fun c hc => (hst.ver c (by rw [← H.nt]; exact hc)).1, fun c hc => (H.sto.ver c (by rw [← H.nt]; exact hc)).2⟩

theorem Try.zero3 (w : World) : (zeroValue 3).run Try.prog w = .ok (.int .i64 0) w := by kernel_rfl

/-- what a lookup in the memo gives -/
theorem least_lookup {q : LP} (H : LHyp q) {s : List Int} {w : World} (hI : LInv q w) (hst : StOk q.f s) (hl : s.length = q.n) :
    ∃ (v : Int) (b : Bool), (∀ W : World, W.heap[q.m]? = w.heap[q.m]? → (Instr.lookup 86 (.map (some q.m)) (.agg #[.int .i64 (s[0]?.getD 0), .int .i64 (s[1]?.getD 0), .int .i64 (s[2]?.getD 0), .int .i64 (s[3]?.getD 0), .int .i64 (s[4]?.getD 0), .int .i64 (s[5]?.getD 0)]) true).run Try.prog W = .ok (.tuple #[.int .i64 v, .bool b]) W) ∧
      (b = true → v = leastV q.f q.to s) := by
  obtain ⟨es, clk, hb, hall, hpw⟩ := hI.memo
  have hsm := hst.small H.ok
  obtain ⟨l, hlk⟩ := keyOf_keyV hsm
  have K := Try.akey.law
  have hkeys : ∀ e ∈ es.toList, ∃ l, keyOf Try.prog 89 e.key = some l := fun e he => by obtain ⟨s', h1, h2, _⟩ := hall e he; rw [h1]; exact keyOf_keyV h2
  rcases K.find w hlk es.toList hkeys with ⟨h1, h2⟩ | ⟨j, e0, h1, h2, h3⟩
  · refine ⟨0, false, fun W hW => ?_, fun h => by cases h⟩
    rcases K.find W hlk es.toList hkeys with ⟨h1', h2'⟩ | ⟨j', e0', h1', h2', h3'⟩
    · have hbW := hW.trans hb
      show (Instr.lookup 86 (.map (some q.m)) (keyV s) true).run Try.prog W = _
      simp [Instr.lookup, run_underlying Try.underlying86, MapKept.run_getObj_map hbW, K.check W _ hlk, h1']
    · exact absurd h3' (h2 e0' (List.mem_of_getElem? h2'))
  · have hm0 : e0 ∈ es.toList := List.mem_of_getElem? h2
    obtain ⟨s', k1, k2, k3, k4⟩ := hall e0 hm0
    have hss : s' = s := keyV_inj (by rw [k3, hl]) (by rw [k3, H.nt]; exact H.ok.n6) (by rw [← k1, h3])
    subst hss
    refine ⟨_, true, fun W hW => ?_, fun _ => rfl⟩
    rcases K.find W hlk es.toList hkeys with ⟨h1', h2'⟩ | ⟨j', e0', h1', h2', h3'⟩
    · exact absurd h3 (h2' e0 hm0)
    · have hm0' : e0' ∈ es.toList := List.mem_of_getElem? h2'
      have hbW := hW.trans hb
      show (Instr.lookup 86 (.map (some q.m)) (keyV s') true).run Try.prog W = _
      simp [Instr.lookup, run_underlying Try.underlying86, MapKept.run_getObj_map hbW, K.check W _ hlk, h1', Result.andThen]
      rw [pairwise_same hpw hm0' hm0 (by rw [h3', h3]), k4]

def leastL (q : LP) (W : World) (a : Option Addr) (c kb : Nat) (s : List Int) : List (Addr × Value) :=
  [(⟨W.heap.size, 0, none⟩, .slice a q.n c), (⟨kb, 0, none⟩, .int .i64 (s[0]?.getD 0)), (⟨kb, 1, none⟩, .int .i64 (s[1]?.getD 0)), (⟨kb, 2, none⟩, .int .i64 (s[2]?.getD 0)), (⟨kb, 3, none⟩, .int .i64 (s[3]?.getD 0)), (⟨kb, 4, none⟩, .int .i64 (s[4]?.getD 0)), (⟨kb, 5, none⟩, .int .i64 (s[5]?.getD 0))]
theorem leastL_blocks {q : LP} {W : World} {a : Option Addr} {c kb : Nat} {s : List Int} : ∀ p ∈ leastL q W a c kb s, p.1.block = W.heap.size ∨ p.1.block = kb := by
  intro p hp
  simp only [leastL, List.mem_cons, List.not_mem_nil, or_false] at hp
  rcases hp with rfl | rfl | rfl | rfl | rfl | rfl | rfl <;> simp

def foldLe (q : LP) (s : List Int) (done : List (List Int)) : Int := done.foldl (leastStep q.f.times s (leastV q.f q.to)) (dur q.f.times s q.to)

/-- what holds in the loop -/
structure LI (q : LP) (W : World) (s : List Int) (a : Option Addr) (c kb bx : Nat) (done : List (List Int)) (w : World) : Prop where
  on : Only (fun b => b = q.m ∨ W.heap.size ≤ b) W w
  loc : LCells w (leastL q W a c kb s)
  memo : Memo w q.m (fun s v => s.length = q.n ∧ v = .int .i64 (leastV q.f q.to s))
  best : LCells w [(⟨bx, 0, none⟩, .int .i64 (foldLe q s done))]

structure LNum (q : LP) (W : World) (kb bx D : Nat) : Prop where
  i1 : q.m < W.heap.size
  i2 : W.heap.size < kb
  i3 : kb < bx
  i4 : bx < D

theorem LI.inv {q : LP} {W w : World} {s : List Int} {a : Option Addr} {c kb bx : Nat} {done : List (List Int)} (h : LI q W s a c kb bx done w) (hI : LInv q W) : LInv q w := hI.of h.on h.memo
theorem LI.keep {q : LP} {W w w' : World} {s : List Int} {a : Option Addr} {c kb bx D : Nat} {done : List (List Int)} (h : LI q W s a c kb bx done w) (hn : LNum q W kb bx D) (g : Only (fun b => b = D + 1 ∨ b = D + 4) w w') : LI q W s a c kb bx done w' := by
  have h1 := hn.i1
  have h2 := hn.i2
  have h3 := hn.i3
  have h4 := hn.i4
  exact ⟨h.on.trans (g.mono' (fun i e => .inr (by omega))), h.loc.only g (fun p hp => by have := leastL_blocks p hp; omega), h.memo.mono (g.block _ h.memo.lt (by omega)) (fun _ _ hv => hv), h.best.only g (fun p hp => by simp at hp; subst hp; simp only; omega)⟩
theorem LI.gr {q : LP} {W w w' : World} {s : List Int} {a : Option Addr} {c kb bx D : Nat} {done : List (List Int)} (h : LI q W s a c kb bx done w) (hn : LNum q W kb bx D) (g : Gr w w') : LI q W s a c kb bx done w' := h.keep hn (g.only _)
theorem LI.call {q : LP} {W w w' : World} {s : List Int} {a : Option Addr} {c kb bx : Nat} {done : List (List Int)} (h : LI q W s a c kb bx done w) (hI : LInv q W) (g : Only (fun b => b = q.m) w w') (hI' : LInv q w') : LI q W s a c kb bx done w' := by
  have hn : NoCells (fun b => b = q.m) w := by
    obtain ⟨es, clk, hm, _, _⟩ := h.memo
    intro b cs t fr hs hb
    subst hs; rw [hm] at hb; cases hb
  exact ⟨h.on.trans (g.mono' (fun i e => .inl e)), h.loc.onlyN g hn, hI'.memo, h.best.onlyN g hn⟩
theorem LI.set {q : LP} {W w : World} {s x : List Int} {a : Option Addr} {c kb bx D : Nat} {done : List (List Int)} (h : LI q W s a c kb bx done w) (hn : LNum q W kb bx D) {v : Int} (hv : foldLe q s (done ++ [x]) = v) : LI q W s a c kb bx (done ++ [x]) (w.setCell ⟨bx, 0, none⟩ (.int .i64 v)) := by
  have g : Only (fun b => b = bx) w (w.setCell ⟨bx, 0, none⟩ (.int .i64 v)) := Only.setCell (S := fun b => b = bx) (Only.refl _ _) (p := ⟨bx, 0, none⟩) (.inl rfl) _
  have h1 := hn.i1
  have h2 := hn.i2
  have h3 := hn.i3
  refine ⟨h.on.trans (g.mono' (fun i e => .inr (by omega))), h.loc.only g (fun p hp => by have := leastL_blocks p hp; omega), h.memo.mono (g.block _ h.memo.lt (by omega)) (fun _ _ hv => hv), fun p hp => ?_⟩
  simp at hp
  subst hp
  rw [hv]
  have hb := h.best.at 0 rfl
  have hf := h.best.fr 0 rfl
  simp only at hb hf
  exact ⟨by simp [go_sem, hb], by simpa using hf⟩
theorem LI.same {q : LP} {W w : World} {s x : List Int} {a : Option Addr} {c kb bx : Nat} {done : List (List Int)} (h : LI q W s a c kb bx done w) (he : foldLe q s (done ++ [x]) = foldLe q s done) : LI q W s a c kb bx (done ++ [x]) w := by
  refine ⟨h.on, h.loc, h.memo, ?_⟩
  rw [he]
  exact h.best
end
section
open Go.RowKit
attribute [local go_sem] Oper.semAt_some

set_option maxRecDepth 100000 in
set_option maxHeartbeats 4000000 in
theorem least_round (q : LP) (H : LHyp q) (s x : List Int) (W w : World) (a : Option Addr) (c kb bx D cx L : Nat) (ad : Addr) (pre : List (List Int)) {tt0 tt6 tt8 tt9 tt12 tt13 tt14 tt15 tt16 tt17 tt18 tt19 tt20 tt21 tt22 tt23 tt24 tt25 tt26 tt27 tt28 tt29 tt30 tt31 tt32 tt33 tt34 tt35 tt36 tt37 tt38 tt39 tt40 tt41 tt42 tt43 tt44 tt45 tt46 tt47 tt48 tt49 tt50 tt51 tt52 tt53 tt54 tt55 tt56 : Value} (body : Code) (hbo : (Try.f56.body.bind firstBody) = some body)
    (hI : LInv q W) (hs : Ints W a q.n s) (hst : StOk q.f s) (hn : LNum q W kb bx D) (hB : LI q W s a c kb bx pre w) (hx : Ints w (some ad) q.n x) (hsx : StOk q.f x) (hbt : Btw s q.to x)
    (ih : 0 < dur q.f.times s x → ∀ (w : World), LInv q w → Ints w (some ad) q.n x → Calls Try.prog 56 #[.slice (some ad) q.n cx, .pointer (some ⟨q.bto, 0, none⟩), .pointer (some ⟨q.bl, 0, none⟩), .pointer (some ⟨q.bf, 0, none⟩), .pointer (some ⟨q.bb, 0, none⟩)] w (LPost q w x)) :
    body.wpIn (Fence.wide.inRound L) 0 Try.prog (roundQ (fun b => b = q.m ∨ b = bx) (LI q W s a c kb bx) (fun _ _ => False) (pre ++ [x]) w) { tmps := #[tt0, .pointer (some ⟨q.bto, 0, none⟩), .pointer (some ⟨q.bl, 0, none⟩), .pointer (some ⟨q.bf, 0, none⟩), .pointer (some ⟨q.bb, 0, none⟩), .pointer (some ⟨W.heap.size, 0, none⟩), tt6, .pointer (some ⟨kb, 0, none⟩), tt8, tt9, .pointer (some ⟨bx, 0, none⟩), .slice (some ad) q.n cx, tt12, tt13, tt14, tt15, tt16, tt17, tt18, tt19, tt20, tt21, tt22, tt23, tt24, tt25, tt26, tt27, tt28, tt29, tt30, tt31, tt32, tt33, tt34, tt35, tt36, tt37, tt38, tt39, tt40, tt41, tt42, tt43, tt44, tt45, tt46, tt47, tt48, tt49, tt50, tt51, tt52, tt53, tt54, tt55, tt56], defers := [] } w := by
  have hIw := hB.inv hI
  have hsw := hs.only hB.on hI.noc
  have b5 := hB.loc.at 0 rfl
  have c0 := hIw.c0
  have c1 := hIw.c1
  have hab : aboveV x s = true := aboveV_true (n := x.length) rfl (fun j hj => hbt.ge j (by rw [← hbt.len]; exact hj))
  have hdb := dur_bd H.ok hst hsx hab
  have HD := Lib.hid (duration_any q.ta q.ca a (some ad) q.tn q.tc q.cn q.cc q.n c cx q.f s x w hIw.fl H.ok hsw hx (fun c hc => (hst.ver c hc).1) hsx (fun c hc => hbt.ge c (by rw [hst.len]; exact hc)))
  simp only [Try.f56, Option.bind, firstBody] at hbo
  injection hbo with hbo
  subst hbo
  gi_wp2_with fail
  refine ⟨trivial, rfl, ?_⟩
  refine (CallsIn.inRound L (callsIn_wide.2 HD.out)).mono ?_
  rintro e w1 ⟨rfl, hg⟩
  have hB1 := hB.gr hn hg
  have hx1 := hx.gr hg
  have hO1 : Only (fun b => b = q.m ∨ b = bx) w w1 := hg.only _
  have hfo : Hid (foldLe q s (pre ++ [x]) = if 0 < dur q.f.times s x ∧ dur q.f.times s x < foldLe q s pre then min (foldLe q s pre) (max (dur q.f.times s x) (leastV q.f q.to x)) else foldLe q s pre) := Lib.hid (by unfold foldLe; rw [List.foldl_append]; rfl)
  have IH0 := Lib.hid ih
  clear ih HD b5 c0 c1
  generalize hdn : dur q.f.times s x = dn at *
  have HDN := Lib.hid hdn
  have hy := hB1.best.at 0 rfl
  generalize hpp : foldLe q s pre = p at *
  have HPP := Lib.hid hpp
  clear hdn hpp
  dsimp only at hy
  by_cases h1 : 0 < dn
  · by_cases h2 : dn < p
    · have IH := Lib.hid (IH0.out h1)
      have hfo2 : Hid (foldLe q s (pre ++ [x]) = min p (max dn (leastV q.f q.to x))) := Lib.hid (by rw [hfo.out, if_pos ⟨h1, h2⟩])
      clear hfo IH0
      generalize hlx : leastV q.f q.to x = lx at *
      have HLX := Lib.hid hlx
      have hfo := hfo2
      clear hlx hfo2
      gi_wp2_with fail
      refine region_inv (F := Fence.wide.inRound L) (by kernel_rfl) (by rfl) (by decide) (fun _ => trivial)
        (fun done' u W' => Kn [some (.int .i64 p), some (.int .i64 dn), some (.func (.func 56) #[] #[.pointer (some ⟨q.bto, 0, none⟩), .pointer (some ⟨q.bl, 0, none⟩), .pointer (some ⟨q.bf, 0, none⟩), .pointer (some ⟨q.bb, 0, none⟩)]), some (.slice (some ad) q.n cx), some (.int .i64 lx), some (.int .i64 (max dn lx)), some (.int .i64 (min p (max dn lx))), none] done' u ∧ ((done' 7 = false → LI q W s a c kb bx pre W' ∧ Only (fun b => b = q.m ∨ b = bx) w W' ∧ Ints W' (some ad) q.n x) ∧ (done' 7 = true → LI q W s a c kb bx (pre ++ [x]) W' ∧ Only (fun b => b = q.m ∨ b = bx) w W')))
        (fun u => ⟨Kn.start _ _, ⟨fun _ => ⟨hB1.gr hn (Gr.drew w1), hO1.thenGr (Gr.drew w1), hx1.gr (Gr.drew w1)⟩, (fun h => by cases h)⟩⟩) ⟨?_, ?_, ?_, ?_, ?_, ?_, ?_, ?_, trivial⟩ ?_
      · rintro u done' W' hd hanc hclo ⟨hk, hR⟩
        have hL := hR.1 (not_done hclo hd 7 rfl (by kernel_rfl))
        have y := hL.1.best.at 0 rfl
        rw [HPP.out] at y
        refine op_plain (ro := some L) rfl (fun c h => by cases h) fun K hK => ?_
        simp only [fillL, List.setIfInBounds_toArray, List.set_cons_zero, List.set_cons_succ, Nat.zero_add, Nat.reduceAdd] at hK ⊢
        go_simp
        exact hK _ _ ⟨hk.new rfl, ⟨fun h => hR.1 (by rw [upd_ne (by decide)] at h; exact h), fun h => hR.2 (by rw [upd_ne (by decide)] at h; exact h)⟩⟩
      · rintro u done' W' hd hanc hclo ⟨hk, hR⟩
        refine op_plain (ro := some L) rfl (fun c h => by cases h) fun K hK => ?_
        simp only [fillL, List.setIfInBounds_toArray, List.set_cons_zero, List.set_cons_succ, Nat.zero_add, Nat.reduceAdd] at hK ⊢
        go_simp
        exact hK _ _ ⟨hk.new rfl, ⟨fun h => hR.1 (by rw [upd_ne (by decide)] at h; exact h), fun h => hR.2 (by rw [upd_ne (by decide)] at h; exact h)⟩⟩
      · rintro u done' W' hd hanc hclo ⟨hk, hR⟩
        have hL := hR.1 (not_done hclo hd 7 rfl (by kernel_rfl))
        have y := (hL.1.inv hI).c4
        refine op_plain (ro := some L) rfl (fun c h => by cases h) fun K hK => ?_
        simp only [fillL, List.setIfInBounds_toArray, List.set_cons_zero, List.set_cons_succ, Nat.zero_add, Nat.reduceAdd] at hK ⊢
        go_simp
        exact hK _ _ ⟨hk.new rfl, ⟨fun h => hR.1 (by rw [upd_ne (by decide)] at h; exact h), fun h => hR.2 (by rw [upd_ne (by decide)] at h; exact h)⟩⟩
      · rintro u done' W' hd hanc hclo ⟨hk, hR⟩
        refine op_plain (ro := some L) rfl (fun c h => by cases h) fun K hK => ?_
        simp only [fillL, List.setIfInBounds_toArray, List.set_cons_zero, List.set_cons_succ, Nat.zero_add, Nat.reduceAdd] at hK ⊢
        go_simp
        exact hK _ _ ⟨hk.new rfl, ⟨fun h => hR.1 (by rw [upd_ne (by decide)] at h; exact h), fun h => hR.2 (by rw [upd_ne (by decide)] at h; exact h)⟩⟩
      · rintro u done' W' hd hanc hclo ⟨hk, hR⟩
        have e2 := hk.get 2 rfl (hanc 2 (mem_of (by kernel_rfl)))
        have e3 := hk.get 3 rfl (hanc 3 (mem_of (by kernel_rfl)))
        have hL := hR.1 (not_done hclo hd 7 rfl (by kernel_rfl))
        have h7 := not_done hclo hd 7 rfl (by kernel_rfl)
        have HCON := Lib.hid (IH.out W' (hL.1.inv hI) hL.2.2)
        refine op_plain (ro := some L) rfl (fun c h => by cases h) fun K hK => ?_
        simp only [fillL, List.setIfInBounds_toArray, List.set_cons_zero, List.set_cons_succ, Nat.zero_add, Nat.reduceAdd, e2, e3] at hK ⊢
        go_simp
        refine HCON.out.mono ?_
        rintro e w2 ⟨rfl, hI2, hO2⟩
        rw [HLX.out]
        have hnm : NoCells (fun b => b = q.m) W' := fun b cs t fr hs hb => (hL.1.inv hI).noc b cs t fr (.inl hs) hb
        exact hK _ _ ⟨hk.new rfl, ⟨fun _ => ⟨hL.1.call hI hO2 hI2, hL.2.1.trans (hO2.mono' (fun i e => .inl e)), hL.2.2.only hO2 hnm⟩, fun h => by rw [upd_ne (by decide), h7] at h; cases h⟩⟩
      · rintro u done' W' hd hanc hclo ⟨hk, hR⟩
        have e1 := hk.get 1 rfl (hanc 1 (mem_of (by kernel_rfl)))
        have e4 := hk.get 4 rfl (hanc 4 (mem_of (by kernel_rfl)))
        refine op_plain (ro := some L) rfl (fun c h => by cases h) fun K hK => ?_
        simp only [fillL, List.setIfInBounds_toArray, List.set_cons_zero, List.set_cons_succ, Nat.zero_add, Nat.reduceAdd, e1, e4] at hK ⊢
        go_simp
        rw [show (if dn < lx then lx else dn) = max dn lx from by split <;> omega]
        exact hK _ _ ⟨hk.new rfl, ⟨fun h => hR.1 (by rw [upd_ne (by decide)] at h; exact h), fun h => hR.2 (by rw [upd_ne (by decide)] at h; exact h)⟩⟩
      · rintro u done' W' hd hanc hclo ⟨hk, hR⟩
        have e0 := hk.get 0 rfl (hanc 0 (mem_of (by kernel_rfl)))
        have e5 := hk.get 5 rfl (hanc 5 (mem_of (by kernel_rfl)))
        refine op_plain (ro := some L) rfl (fun c h => by cases h) fun K hK => ?_
        simp only [fillL, List.setIfInBounds_toArray, List.set_cons_zero, List.set_cons_succ, Nat.zero_add, Nat.reduceAdd, e0, e5] at hK ⊢
        go_simp
        rw [show (if max dn lx < p then max dn lx else p) = min p (max dn lx) from by split <;> omega]
        exact hK _ _ ⟨hk.new rfl, ⟨fun h => hR.1 (by rw [upd_ne (by decide)] at h; exact h), fun h => hR.2 (by rw [upd_ne (by decide)] at h; exact h)⟩⟩
      · rintro u done' W' hd hanc hclo ⟨hk, hR⟩
        have e6 := hk.get 6 rfl (hanc 6 (mem_of (by kernel_rfl)))
        have hL := hR.1 hd
        have y := hL.1.best.at 0 rfl
        have z := hL.1.best.fr 0 rfl
        refine op_plain (ro := some L) rfl (fun c h => by cases h) fun K hK => ?_
        simp only [fillL, List.setIfInBounds_toArray, List.set_cons_zero, List.set_cons_succ, Nat.zero_add, Nat.reduceAdd, e6] at hK ⊢
        go_simp
        exact hK undef _ ⟨hk.skip rfl, ⟨(fun h => by rw [upd_self] at h; cases h), fun _ => ⟨hL.1.set hn hfo.out, hL.2.1.setCell (.inl (.inr rfl)) _⟩⟩⟩
      · rintro u W' ⟨done', hdn, hk, hR⟩
        have e0 := hk.get 0 rfl (hdn 0 (by decide))
        have e1 := hk.get 1 rfl (hdn 1 (by decide))
        have e2 := hk.get 2 rfl (hdn 2 (by decide))
        have e3 := hk.get 3 rfl (hdn 3 (by decide))
        have e4 := hk.get 4 rfl (hdn 4 (by decide))
        have e5 := hk.get 5 rfl (hdn 5 (by decide))
        have e6 := hk.get 6 rfl (hdn 6 (by decide))
        simp only [fillL, List.setIfInBounds_toArray, List.set_cons_zero, List.set_cons_succ, Nat.zero_add, Nat.reduceAdd, e0, e1, e2, e3, e4, e5, e6]
        have hL := hR.2 (hdn 7 (by decide))
        gi_wp2_with fail
        exact ⟨hL.2, hL.1⟩
    · have hfo2 : Hid (foldLe q s (pre ++ [x]) = p) := Lib.hid (by rw [hfo.out, if_neg (by omega)])
      clear hfo IH0
      gi_wp2_with fail
      exact ⟨hO1, hB1.same (by rw [hfo2.out, HPP.out])⟩
  · have hfo2 : Hid (foldLe q s (pre ++ [x]) = p) := Lib.hid (by rw [hfo.out, if_neg (by omega)])
    clear hfo IH0
    gi_wp2_with fail
    exact ⟨hO1, hB1.same (by rw [hfo2.out, HPP.out])⟩
end
section
open Go.RowKit
attribute [local go_sem] Oper.semAt_some

theorem least_out {q : LP} {W W' : World} {s : List Int} {D : Nat} {t : Array Value} {v : Int} (hI : LInv q W) (hm : q.m < D) (hD : W.heap.size ≤ D) (hon : Only (fun b => b = q.m ∨ W.heap.size ≤ b) W W') (hmm : Memo W' q.m (fun s v => s.length = q.n ∧ v = .int .i64 (leastV q.f q.to s)))
    (hdef : W'.heap[D]? = some (.deferred (some []))) (hv : leastV q.f q.to s = v) (ht : t.getD 6 undef = .int .i64 v := by rfl) :
    bodyPostM Fence.wide 0 Try.prog Try.f56 (LPost q W s) .ret { tmps := t, defers := [{ target := .collected D, args := #[] }] } W' := by
  have hO := putObj_only W' D (.deferred none)
  have hon2 := hon.trans (hO.mono' (fun i e => .inr (by omega)))
  refine marks_ret1 (v := .int .i64 v) (D := D) rfl hdef ?_ ⟨by rw [hv], hI.of hon2 (hmm.mono (hO.block _ hmm.lt (by omega)) (fun _ _ h => h)), hon2.mono (fun i hi e => by omega)⟩
  have ht' : t[6]?.getD undef = .int .i64 v := by rw [← ht]; simp
  simp [results, Try.results56, go_sem, ht']

set_option maxRecDepth 100000 in
set_option maxHeartbeats 4000000 in
theorem least_main (q : LP) (H : LHyp q) (s : List Int) (W : World) (a : Option Addr) (c : Nat) (hI : LInv q W) (hs : Ints W a q.n s) (hst : StOk q.f s) (he : ¬ s = q.to) (hna : aboveV q.to s = true)
    (ih : ∀ (x : List Int) (w : World) (ad : Addr) (cx : Nat), 0 < dur q.f.times s x → x ∈ enum q.f s q.to q.n [] → StOk q.f x → LInv q w → Ints w (some ad) q.n x → Calls Try.prog 56 #[.slice (some ad) q.n cx, .pointer (some ⟨q.bto, 0, none⟩), .pointer (some ⟨q.bl, 0, none⟩), .pointer (some ⟨q.bf, 0, none⟩), .pointer (some ⟨q.bb, 0, none⟩)] w (LPost q w x)) :
    Calls Try.prog 56 #[.slice a q.n c, .pointer (some ⟨q.bto, 0, none⟩), .pointer (some ⟨q.bl, 0, none⟩), .pointer (some ⟨q.bf, 0, none⟩), .pointer (some ⟨q.bb, 0, none⟩)] W (LPost q W s) := by
  have hn1 : 0 < q.n := by have := H.ok.n1; have := H.nt; omega
  have hn6 : q.n ≤ 6 := by have := H.ok.n6; have := H.nt; omega
  have hsl : s.length = q.to.length := by rw [hs.len, hI.ito.len]
  have hfin : Hid (leastV q.f q.to s = foldLe q s (enum q.f s q.to q.n [])) := Lib.hid (by rw [leastV_eq hsl hna he, hs.len]; rfl)
  have hdb := dur_bd H.ok hst H.sto hna
  have hable := aboveV_le hna
  have g1 := Gr.alloc W (.cells #[.slice a q.n c] 26)
  have hb5 := cell_new (w := W) (t := 26) (cs := #[.slice a q.n c]) (j := 0) (v := .slice a q.n c) rfl
  have hf5 := frozen_new (w := W) (t := 26) (cs := #[.slice a q.n c]) (j := 0)
  obtain ⟨w1, hw1⟩ : ∃ w1, W.alloc (.cells #[.slice a q.n c] 26) = w1 := ⟨_, rfl⟩
  rw [hw1] at g1 hb5 hf5
  have hI1 := hI.gr g1
  have hc2 := hI1.c2
  have hq1 := equal_any a q.toa q.n c q.n q.toc s q.to w1 (hs.gr g1) hI1.ito
  rw [decide_eq_false he] at hq1
  have HEQ := Lib.hid hq1
  have HE := Lib.hid he
  have IH := Lib.hid ih
  have HAB := Lib.hid hable
  obtain ⟨lv, lb, hlk, hlv⟩ := least_lookup H hI hst hs.len
  have HLK := Lib.hid hlk
  have HLV := Lib.hid hlv
  clear ih hlk hlv hq1 he hsl hable
  refine calls_marks Try.func56 rfl ?_
  simp only [Try.ntmps56, List.size_toArray, List.length_cons, List.length_nil, Nat.reduceAdd, Nat.reduceSub, Array.replicate_succ, Array.replicate_zero, List.push_toArray, List.append_toArray, List.nil_append, List.cons_append]
  go_wp2_with fail
  clear hw1
  refine HEQ.out.mono ?_
  rintro e w2 ⟨rfl, k, rfl⟩
  have g2 := g1.trans (Gr.drewN w1 k)
  have hb52 := ((Gr.drewN w1 k).cell (lt_cell hb5)).trans hb5
  have hf52 := ((Gr.drewN w1 k).frozen (lt_cell hb5)).trans hf5
  obtain ⟨w2, hw2⟩ : ∃ w2, w1.drewN k = w2 := ⟨_, rfl⟩
  rw [hw2] at g2 hb52 hf52 ⊢
  clear hw2 hb5 hf5 hc2 HEQ g1
  have HKE := Lib.hid (keyOf_any a q.n c s w2 (hs.gr g2) hn1 hn6)
  go_wp2_with fail
  refine HKE.out.mono ?_
  rintro e w3 ⟨rfl, g3⟩
  unfold keyV
  have G3 := g2.trans g3
  have hkg := Gr.alloc w3 (.cells #[.int .i64 (s[0]?.getD 0), .int .i64 (s[1]?.getD 0), .int .i64 (s[2]?.getD 0), .int .i64 (s[3]?.getD 0), .int .i64 (s[4]?.getD 0), .int .i64 (s[5]?.getD 0)] 89)
  have hkc : ∀ j v, (#[Value.int .i64 (s[0]?.getD 0), .int .i64 (s[1]?.getD 0), .int .i64 (s[2]?.getD 0), .int .i64 (s[3]?.getD 0), .int .i64 (s[4]?.getD 0), .int .i64 (s[5]?.getD 0)] : Array Value)[j]? = some v → (w3.alloc (.cells #[.int .i64 (s[0]?.getD 0), .int .i64 (s[1]?.getD 0), .int .i64 (s[2]?.getD 0), .int .i64 (s[3]?.getD 0), .int .i64 (s[4]?.getD 0), .int .i64 (s[5]?.getD 0)] 89)).cell? ⟨w3.heap.size, j, none⟩ = some v := fun j v h => cell_new h
  have hkf : ∀ j, (w3.alloc (.cells #[.int .i64 (s[0]?.getD 0), .int .i64 (s[1]?.getD 0), .int .i64 (s[2]?.getD 0), .int .i64 (s[3]?.getD 0), .int .i64 (s[4]?.getD 0), .int .i64 (s[5]?.getD 0)] 89)).frozen? ⟨w3.heap.size, j, none⟩ = false := fun j => frozen_new
  have hloc : LCells (w3.alloc (.cells #[.int .i64 (s[0]?.getD 0), .int .i64 (s[1]?.getD 0), .int .i64 (s[2]?.getD 0), .int .i64 (s[3]?.getD 0), .int .i64 (s[4]?.getD 0), .int .i64 (s[5]?.getD 0)] 89)) (leastL q W a c w3.heap.size s) := by
    have g4 := g3.trans hkg
    intro p hp
    simp only [leastL, List.mem_cons, List.not_mem_nil, or_false] at hp
    rcases hp with rfl | rfl | rfl | rfl | rfl | rfl | rfl
    · exact ⟨(g4.cell (lt_cell hb52)).trans hb52, (g4.frozen (lt_cell hb52)).trans hf52⟩
    · exact ⟨hkc 0 _ rfl, hkf 0⟩
    · exact ⟨hkc 1 _ rfl, hkf 1⟩
    · exact ⟨hkc 2 _ rfl, hkf 2⟩
    · exact ⟨hkc 3 _ rfl, hkf 3⟩
    · exact ⟨hkc 4 _ rfl, hkf 4⟩
    · exact ⟨hkc 5 _ rfl, hkf 5⟩
  have hkb : W.heap.size < w3.heap.size := Nat.lt_of_lt_of_le (lt_cell hb52) g3.size
  have G4 := G3.trans hkg
  have hI4 := hI.gr G4
  have hc3 := hI4.c3
  obtain ⟨w4, hw4⟩ : ∃ w4, w3.alloc (.cells #[.int .i64 (s[0]?.getD 0), .int .i64 (s[1]?.getD 0), .int .i64 (s[2]?.getD 0), .int .i64 (s[3]?.getD 0), .int .i64 (s[4]?.getD 0), .int .i64 (s[5]?.getD 0)] 89) = w4 := ⟨_, rfl⟩
  rw [hw4] at hloc G4 hI4 hc3
  have hk0 := hloc.at 1 rfl
  have hk1 := hloc.at 2 rfl
  have hk2 := hloc.at 3 rfl
  have hk3 := hloc.at 4 rfl
  have hk4 := hloc.at 5 rfl
  have hk5 := hloc.at 6 rfl
  have hlk := HLK.out w4 (G4.below.block _ hI.memo.lt)
  clear hkc hkf hkg G3 g3 HKE hb52 hf52 g2 HLK
  cases lb with
  | true =>
    have hv := HLV.out rfl
    have HV := Lib.hid hv
    clear hv HLV
    go_wp2_with fail
    exact marks_ret0 (v := .int .i64 lv) (by simp [results, Try.results56, go_sem]) rfl ⟨by rw [HV.out], hI4, G4.only _⟩
  | false =>
    have hc0 := hI4.c0
    have hc1 := hI4.c1
    have hc2 := hI4.c2
    have hb5 := hloc.at 0 rfl
    have HDU := Lib.hid (duration_any q.ta q.ca a q.toa q.tn q.tc q.cn q.cc q.n c q.toc q.f s q.to w4 hI4.fl H.ok (hs.gr G4) hI4.ito (fun c hc => (hst.ver c hc).1) H.sto (fun c hc => HAB.out c (by rw [H.sto.len]; exact hc)))
    clear HLV
    go_wp2_with fail
    refine HDU.out.mono ?_
    rintro e w5 ⟨rfl, g5⟩
    clear hc0 hc1 hc2 hc3 hk0 hk1 hk2 hk3 hk4 hk5 hb5 hlk HDU hw4
    have g6 := g5.allocR (.cells #[.int .i64 (dur q.f.times s q.to)] 3)
    have hbx : LCells (w5.alloc (.cells #[.int .i64 (dur q.f.times s q.to)] 3)) [(⟨w5.heap.size, 0, none⟩, .int .i64 (dur q.f.times s q.to))] := fun p hp => by
      simp at hp
      subst hp
      exact ⟨cell_new rfl, frozen_new⟩
    have hloc6 := hloc.gr g6
    have hkb5 : w3.heap.size < w5.heap.size := Nat.lt_of_lt_of_le (hloc.lt (⟨w3.heap.size, 0, none⟩, _) (by simp [leastL]; rfl)) g5.size
    obtain ⟨w6, hw6⟩ : ∃ w6, w5.alloc (.cells #[.int .i64 (dur q.f.times s q.to)] 3) = w6 := ⟨_, rfl⟩
    rw [hw6] at g6 hbx hloc6
    have G6 := G4.trans g6
    have hI6 := hI.gr G6
    have hc0 := hI6.c0
    have hc1 := hI6.c1
    have hc2 := hI6.c2
    have hb5 := hloc6.at 0 rfl
    have HST := Lib.hid (states_any q.ta q.ca a q.toa q.tn q.tc q.cn q.cc q.n c q.n q.toc w6)
    clear g5 hloc
    go_wp2_with fail
    clear hw6
    refine HST.out.mono ?_
    rintro e w7 hnew
    obtain ⟨g7, s7, i0, i1, i2, i3⟩ := NewIter.facts hnew
    obtain ⟨rfl, -⟩ := hnew
    clear hc0 hc1 hc2 hb5 HST
    generalize hkk : w3.heap.size = kb at *
    generalize hxx : w5.heap.size = bx at *
    have hbx7 := hbx.gr g7
    have hB7 : LI q W s a c kb bx [] w7 := ⟨(G6.trans g7).only _, hloc6.gr g7, (hI6.gr g7).memo, hbx7⟩
    have l0 := hbx7.lt (⟨bx, 0, none⟩, .int .i64 (dur q.f.times s q.to)) (by simp)
    have l6 := hbx.lt (⟨bx, 0, none⟩, .int .i64 (dur q.f.times s q.to)) (by simp)
    simp only at l0 l6
    have hm0 := hI.memo.lt
    have hn : LNum q W kb bx w7.heap.size := ⟨hm0, hkb, hkb5, l0⟩
    have h67 := g7.size
    clear s7 hbx hloc6 hbx7 hkk hxx
    go_wp2_with fail
    refine range_states (wB := W) (S := fun b => b = q.m ∨ W.heap.size ≤ b) (Y := fun b => b = q.m ∨ b = bx) (f := q.f) (lo := s) (hi := q.to) (n := q.n) (bfr := w6.heap.size + 1) (bfl := w6.heap.size) (bto := w6.heap.size + 2) rfl (hI.base H hs hst) ((G6.trans g7).only _) ?_ ?_ i2 i0 i1 i3 ?_ ?_ ?_ (LI q W s a c kb bx) (fun _ _ => False) hB7 (fun xs W1 W2 h g => h.keep hn g) (fun _ _ _ h _ => h.elim) ?a1 ?assign ?body ?done (fun _ _ h => h.elim)
    case assign =>
      intro l v w1 K hK
      gi_wp2
      exact hK
    case body =>
      intro pre x ad cx wr hB _ hx hax hx3 hmem hsx hw
      have hmem' := hmem
      rw [← hs.len] at hmem'
      exact least_round q H s x W wr a c kb bx w7.heap.size cx (w7.heap.size + 1) ad pre _ (by rfl) hI hs hst hn hB hx hsx (enum_between hmem').1 (fun hd w => IH.out x w ad cx hd hmem hsx)
    case done =>
      intro w10 hB10 hdef
      have hI10 := hB10.inv hI
      have c3 := hI10.c3
      have k0 := hB10.loc.at 1 rfl
      have k1 := hB10.loc.at 2 rfl
      have k2 := hB10.loc.at 3 rfl
      have k3 := hB10.loc.at 4 rfl
      have k4 := hB10.loc.at 5 rfl
      have k5 := hB10.loc.at 6 rfl
      have y := hB10.best.at 0 rfl
      obtain ⟨o, hrun, hmemo⟩ := memo_store (v := .int .i64 (foldLe q s (enum q.f s q.to q.n []))) Try.underlying86 hI10.memo (hst.small H.ok) ⟨hs.len, by rw [hfin.out]⟩
      unfold keyV at hrun
      have hO := putObj_only w10 q.m o
      have hnm : NoCells (fun b => b = q.m) w10 := fun b cs t fr hs hb => hI10.noc b cs t fr (.inl hs) hb
      have y11 := hO.cellN hnm y
      have hon11 := hB10.on.trans (hO.mono' (fun i e => .inl e))
      have hD := (Array.getElem?_eq_some_iff.1 hdef).1
      have hdef11 := (hO.block _ hD (by have := hn.i1; have := hn.i2; have := hn.i3; have := hn.i4; omega)).trans hdef
      generalize foldLe q s (enum q.f s q.to q.n []) = fv at *
      dsimp only at y y11
      go_wp2_with fail
      exact least_out hI (by have := hn.i1; have := hn.i2; have := hn.i3; have := hn.i4; omega) (by have := hn.i2; have := hn.i3; have := hn.i4; omega) hon11 hmemo hdef11 hfin.out
    all_goals first | (intro b h; omega) | omega

theorem least_end (q : LP) (s : List Int) (W : World) (a : Option Addr) (c : Nat) (hI : LInv q W) (hs : Ints W a q.n s) (he : s = q.to) :
    Calls Try.prog 56 #[.slice a q.n c, .pointer (some ⟨q.bto, 0, none⟩), .pointer (some ⟨q.bl, 0, none⟩), .pointer (some ⟨q.bf, 0, none⟩), .pointer (some ⟨q.bb, 0, none⟩)] W (LPost q W s) := by
  have hv : Hid (leastV q.f q.to s = 0) := Lib.hid (by rw [he]; exact leastV_end _ _)
  have g1 := Gr.alloc W (.cells #[.slice a q.n c] 26)
  have hb5 := cell_new (w := W) (t := 26) (cs := #[.slice a q.n c]) (j := 0) (v := .slice a q.n c) rfl
  obtain ⟨w1, hw1⟩ : ∃ w1, W.alloc (.cells #[.slice a q.n c] 26) = w1 := ⟨_, rfl⟩
  rw [hw1] at g1 hb5
  have hI1 := hI.gr g1
  have hc2 := hI1.c2
  have hq1 := equal_any a q.toa q.n c q.n q.toc s q.to w1 (hs.gr g1) hI1.ito
  rw [decide_eq_true he] at hq1
  have HEQ := Lib.hid hq1
  clear hq1 he
  go_enter Try.func56, Try.ntmps56
  go_wp2_with fail
  refine HEQ.out.mono ?_
  rintro e w2 ⟨rfl, k, rfl⟩
  go_wp2_with fail
  go_ret
  exact ⟨by rw [hv.out]; rfl, hI1.gr (Gr.drewN w1 k), (g1.trans (Gr.drewN w1 k)).only _⟩

theorem least_any (q : LP) (H : LHyp q) : ∀ (k : Nat) (s : List Int) (W : World) (a : Option Addr) (c : Nat), gap s q.to ≤ k → StOk q.f s → aboveV q.to s = true → LInv q W → Ints W a q.n s →
    Calls Try.prog 56 #[.slice a q.n c, .pointer (some ⟨q.bto, 0, none⟩), .pointer (some ⟨q.bl, 0, none⟩), .pointer (some ⟨q.bf, 0, none⟩), .pointer (some ⟨q.bb, 0, none⟩)] W (LPost q W s) := by
  intro k
  induction k with
  | zero =>
    intro s W a c hk hst ha hI hs
    exact least_end q s W a c hI hs (above_gap_zero (by rw [hs.len, hI.ito.len]) ha (by omega))
  | succ k ih =>
    intro s W a c hk hst ha hI hs
    by_cases he : s = q.to
    · exact least_end q s W a c hI hs he
    · refine least_main q H s W a c hI hs hst he ha (fun x w ad cx hd hmem hsx hIw hxw => ?_)
      have hl : s.length = q.to.length := by rw [hs.len, hI.ito.len]
      rw [← hs.len] at hmem
      have hb := (enum_between hmem).1
      have hne : s ≠ x := fun e => by subst e; rw [dur_self] at hd; omega
      have hlt := gap_lt (hl := hl) hb hne
      exact ih x w (some ad) cx (by omega) hsx (aboveV_true (n := q.to.length) rfl (fun j hj => hb.le j (by omega))) hIw hxw
end
section
open Go.RowKit

def leastE (f : Fl) (a b : List Int) : Int := if statesE f [a, b] = 0 then (if worksB f a && worksB f b then (if aboveV b a then 0 else 112) else 111) else statesE f [a, b]
def leastR (f : Fl) (a b : List Int) : Int := if leastE f a b = 0 then leastV f b a else 0

def LeastPost (w : World) (v code : Int) (e : Ending) (w' : World) : Prop := e = .returned (.tuple #[.int .i64 v, .int .i64 code]) ∧ Gr w w'

theorem statesE_ok2 {f : Fl} {a b : List Int} (hz : statesE f [a, b] = 0) : FlOk f ∧ StOk f a ∧ StOk f b := by
  obtain ⟨hchk, hsts⟩ := statesE_zero hz
  exact ⟨chkB_ok hchk, stB_ok (stsB_two hsts).1, stB_ok (stsB_two hsts).2⟩

/-- the boxes of Least, and of its first call -/
structure LB (w w3 : World) (va vb vc vd : Value) : Prop where
  gr : Gr w w3
  c0 : w3.cell? ⟨w.heap.size, 0, none⟩ = some va
  c1 : w3.cell? ⟨w.heap.size, 1, none⟩ = some vb
  t0 : w3.cell? ⟨w.heap.size + 1, 0, none⟩ = some vd
  d0 : w3.cell? ⟨w.heap.size + 1 + 1, 0, none⟩ = some vc
  d1 : w3.cell? ⟨w.heap.size + 1 + 1, 1, none⟩ = some vd
  sz : w.heap.size + 1 + 1 < w3.heap.size
theorem lb (w : World) (va vb vc vd : Value) : LB w (((w.alloc (.cells #[va, vb] 25)).alloc (.cells #[vd] 26)).alloc (.cells #[vc, vd] 26)) va vb vc vd := by
  have h := three w #[va, vb] #[vd] #[vc, vd] 25 26 26
  exact ⟨h.gr, h.a 0 _ rfl, h.a 1 _ rfl, h.b 0 _ rfl, h.c 0 _ rfl, h.c 1 _ rfl, by rw [h.sz]; omega⟩

/-- the closure of Least, made -/
theorem least_new {w : World} {b3 b5 : Nat} {ta ca b : Option Addr} {tn tc cn cc n d : Nat} {f : Fl} {ys : List Int} (hf : FlAt w ta tn ca cn f) (hy : Ints w b n ys) (c0 : w.cell? ⟨b3, 0, none⟩ = some (.slice ta tn tc)) (c1 : w.cell? ⟨b3, 1, none⟩ = some (.slice ca cn cc)) (c2 : w.cell? ⟨b5, 0, none⟩ = some (.slice b n d)) :
    LInv ⟨b5, w.heap.size + 1, b3, w.heap.size + 2, w.heap.size, ta, tn, tc, ca, cn, cc, b, d, n, f, ys⟩ (((w.alloc (.map #[] 0)).alloc (.cells #[.map (some w.heap.size)] 86)).alloc (.cells #[.func (.func 56) #[] #[.pointer (some ⟨b5, 0, none⟩), .pointer (some ⟨w.heap.size + 1, 0, none⟩), .pointer (some ⟨b3, 0, none⟩), .pointer (some ⟨w.heap.size + 2, 0, none⟩)]] 87)) := by
  have g := ((Gr.alloc w (.map #[] 0)).allocR (.cells #[.map (some w.heap.size)] 86)).allocR (.cells #[.func (.func 56) #[] #[.pointer (some ⟨b5, 0, none⟩), .pointer (some ⟨w.heap.size + 1, 0, none⟩), .pointer (some ⟨b3, 0, none⟩), .pointer (some ⟨w.heap.size + 2, 0, none⟩)]] 87)
  have g2 := (Gr.alloc (w.alloc (.map #[] 0)) (.cells #[.map (some w.heap.size)] 86)).allocR (.cells #[.func (.func 56) #[] #[.pointer (some ⟨b5, 0, none⟩), .pointer (some ⟨w.heap.size + 1, 0, none⟩), .pointer (some ⟨b3, 0, none⟩), .pointer (some ⟨w.heap.size + 2, 0, none⟩)]] 87)
  have g3 := Gr.alloc ((w.alloc (.map #[] 0)).alloc (.cells #[.map (some w.heap.size)] 86)) (.cells #[.func (.func 56) #[] #[.pointer (some ⟨b5, 0, none⟩), .pointer (some ⟨w.heap.size + 1, 0, none⟩), .pointer (some ⟨b3, 0, none⟩), .pointer (some ⟨w.heap.size + 2, 0, none⟩)]] 87)
  have s1 : w.heap.size + 1 = (w.alloc (.map #[] 0)).heap.size := by simp
  have s2 : w.heap.size + 2 = ((w.alloc (.map #[] 0)).alloc (.cells #[.map (some w.heap.size)] 86)).heap.size := by simp
  refine ⟨(g.cell (lt_cell c0)).trans c0, (g.cell (lt_cell c1)).trans c1, (g.cell (lt_cell c2)).trans c2, ?_, ?_, hf.gr g, hy.gr g, (memo_new w _).mono (g2.below.block _ (by simp)) (fun _ _ h => h)⟩
  · have := cell_new (w := w.alloc (.map #[] 0)) (t := 86) (cs := #[.map (some w.heap.size)]) (j := 0) (v := .map (some w.heap.size)) rfl
    rw [← s1] at this
    exact (g3.cell (by simp)).trans this
  · have := cell_new (w := (w.alloc (.map #[] 0)).alloc (.cells #[.map (some w.heap.size)] 86)) (t := 87) (cs := #[.func (.func 56) #[] #[.pointer (some ⟨b5, 0, none⟩), .pointer (some ⟨w.heap.size + 1, 0, none⟩), .pointer (some ⟨b3, 0, none⟩), .pointer (some ⟨w.heap.size + 2, 0, none⟩)]]) (j := 0) rfl
    rw [← s2] at this
    exact this

set_option maxRecDepth 100000 in
set_option maxHeartbeats 2000000 in
theorem leastF_any (ta ca a b : Option Addr) (tn tc cn cc n c m d : Nat) (f : Fl) (xs ys : List Int) (w : World) (hf : FlAt w ta tn ca cn f) (hx : Ints w a n xs) (hy : Ints w b m ys) :
    Calls Try.prog 20 #[.agg #[.slice ta tn tc, .slice ca cn cc], .slice a n c, .slice b m d] w (LeastPost w (leastR f xs ys) (leastE f xs ys)) := by
  have h3 := lb w (.slice ta tn tc) (.slice ca cn cc) (.slice a n c) (.slice b m d)
  obtain ⟨w3, hw3⟩ : ∃ w3, ((w.alloc (.cells #[.slice ta tn tc, .slice ca cn cc] 25)).alloc (.cells #[.slice b m d] 26)).alloc (.cells #[.slice a n c, .slice b m d] 26) = w3 := ⟨_, rfl⟩
  rw [hw3] at h3
  have hcon := Lib.hid (checkStates_any ta ca _ tn tc cn cc 2 2 f [xs, ys] w3 (hf.gr h3.gr) (rows2 (c := c) (d := d) h3.sz h3.d0 h3.d1 (hx.gr h3.gr) (hy.gr h3.gr)))
  by_cases hb : statesE f [xs, ys] = 0
  · obtain ⟨hok, hsx, hsy⟩ := statesE_ok2 hb
    have hbb : (statesE f [xs, ys] != 0) = false := by simp [hb]
    obtain rfl : n = m := by rw [← hx.len, ← hy.len, hsx.len, hsy.len]
    have HLE : Hid (leastE f xs ys = if worksB f xs && worksB f ys then (if aboveV ys xs then 0 else 112) else 111) := Lib.hid (by unfold leastE; rw [if_pos hb])
    have HLR : Hid (leastR f xs ys = if leastE f xs ys = 0 then leastV f ys xs else 0) := Lib.hid rfl
    have hnt : n = f.times.length := by rw [← hsx.len, hx.len]
    have HNT := Lib.hid hnt
    clear hb hnt
    have c0 := h3.c0
    have c1 := h3.c1
    have t0 := h3.t0
    go_enter Try.func20, Try.ntmps20
    go_wp2_with fail
    refine hcon.out.mono ?_
    rintro e w4 ⟨rfl, g4⟩
    clear hw3
    have G4 := h3.gr.trans g4
    have c04 := (g4.cell (lt_cell c0)).trans c0
    have c14 := (g4.cell (lt_cell c1)).trans c1
    have t04 := (g4.cell (lt_cell t0)).trans t0
    clear c0 c1 t0
    have HW := Lib.hid (works_any ta ca a tn tc cn cc n c f xs w4 (hf.gr G4) hok (hx.gr G4) hsx)
    go_wp2_with fail
    refine HW.out.mono ?_
    rintro e w5 ⟨rfl, g5⟩
    have G5 := G4.trans g5
    have c05 := (g5.cell (lt_cell c04)).trans c04
    have c15 := (g5.cell (lt_cell c14)).trans c14
    have t05 := (g5.cell (lt_cell t04)).trans t04
    clear c04 c14 t04 HW
    cases hwx : worksB f xs with
    | false =>
      have HP : Hid (leastE f xs ys = 111 ∧ leastR f xs ys = 0) := Lib.hid (by
        have h1 : leastE f xs ys = 111 := by rw [HLE.out, hwx]; rfl
        exact ⟨h1, by rw [HLR.out, h1]; rfl⟩)
      go_wp2_with fail
      go_ret2
      exact ⟨by rw [HP.out.1, HP.out.2]; rfl, G5⟩
    | true =>
      have HW2 := Lib.hid (works_any ta ca b tn tc cn cc n d f ys w5 (hf.gr G5) hok (hy.gr G5) hsy)
      go_wp2_with fail
      refine HW2.out.mono ?_
      rintro e w6 ⟨rfl, g6⟩
      have G6 := G5.trans g6
      have c06 := (g6.cell (lt_cell c05)).trans c05
      have c16 := (g6.cell (lt_cell c15)).trans c15
      have t06 := (g6.cell (lt_cell t05)).trans t05
      clear c05 c15 t05 HW2
      cases hwy : worksB f ys with
      | false =>
        have HP : Hid (leastE f xs ys = 111 ∧ leastR f xs ys = 0) := Lib.hid (by
          have h1 : leastE f xs ys = 111 := by rw [HLE.out, hwx, hwy]; rfl
          exact ⟨h1, by rw [HLR.out, h1]; rfl⟩)
        go_wp2_with fail
        go_ret2
        exact ⟨by rw [HP.out.1, HP.out.2]; rfl, G6⟩
      | true =>
        have HA := Lib.hid (above_any b a n d n c ys xs w6 (hy.gr G6) (hx.gr G6) (Nat.le_refl _))
        go_wp2_with fail
        refine HA.out.mono ?_
        rintro e w7 ⟨rfl, k, rfl⟩
        have g7 := Gr.drewN w6 k
        have G7 := G6.trans g7
        have c07 := (g7.cell (lt_cell c06)).trans c06
        have c17 := (g7.cell (lt_cell c16)).trans c16
        have t07 := (g7.cell (lt_cell t06)).trans t06
        obtain ⟨w7, hw7⟩ : ∃ w7, w6.drewN k = w7 := ⟨_, rfl⟩
        rw [hw7] at G7 c07 c17 t07 ⊢
        clear c06 c16 t06 HA hw7 g7
        cases hab : aboveV ys xs with
        | false =>
          have HP : Hid (leastE f xs ys = 112 ∧ leastR f xs ys = 0) := Lib.hid (by
            have h1 : leastE f xs ys = 112 := by rw [HLE.out, hwx, hwy, hab]; rfl
            exact ⟨h1, by rw [HLR.out, h1]; rfl⟩)
          go_wp2_with fail
          go_ret2
          exact ⟨by rw [HP.out.1, HP.out.2]; rfl, G7⟩
        | true =>
          have HP : Hid (leastE f xs ys = 0 ∧ leastR f xs ys = leastV f ys xs) := Lib.hid (by
            have h1 : leastE f xs ys = 0 := by rw [HLE.out, hwx, hwy, hab]; rfl
            exact ⟨h1, by rw [HLR.out, h1]; rfl⟩)
          have hI := least_new (d := d) (hf.gr G7) (hy.gr G7) c07 c17 t07
          have g8 := ((Gr.alloc w7 (.map #[] 0)).allocR (.cells #[.map (some w7.heap.size)] 86)).allocR (.cells #[.func (.func 56) #[] #[.pointer (some ⟨w.heap.size + 1, 0, none⟩), .pointer (some ⟨w7.heap.size + 1, 0, none⟩), .pointer (some ⟨w.heap.size, 0, none⟩), .pointer (some ⟨w7.heap.size + 2, 0, none⟩)]] 87)
          obtain ⟨w8, hw8⟩ : ∃ w8, ((w7.alloc (.map #[] 0)).alloc (.cells #[.map (some w7.heap.size)] 86)).alloc (.cells #[.func (.func 56) #[] #[.pointer (some ⟨w.heap.size + 1, 0, none⟩), .pointer (some ⟨w7.heap.size + 1, 0, none⟩), .pointer (some ⟨w.heap.size, 0, none⟩), .pointer (some ⟨w7.heap.size + 2, 0, none⟩)]] 87) = w8 := ⟨_, rfl⟩
          rw [hw8] at hI g8
          have G8 := G7.trans g8
          have HBE := Lib.hid (least_any _ ⟨hok, hsy, HNT.out⟩ (gap xs ys) xs w8 a c (Nat.le_refl _) hsx hab hI (hx.gr G8))
          have hmm := @run_makeMap Try.prog
          have hc4 := hI.c4
          have h7 := G7.size
          go_wp2_with fail
          refine HBE.out.mono ?_
          rintro e w9 ⟨rfl, hI9, hO9⟩
          clear hw8
          go_wp2_with fail
          go_ret2
          have hGW : Gr w w9 := ((G8.only _).trans hO9).gr (fun i hi e => by omega)
          exact ⟨by rw [HP.out.1, HP.out.2]; rfl, hGW⟩
  · have hbb : (statesE f [xs, ys] != 0) = true := by simp [hb]
    have HP : Hid (leastE f xs ys = statesE f [xs, ys] ∧ leastR f xs ys = 0) := Lib.hid (by
      have h1 : leastE f xs ys = statesE f [xs, ys] := by unfold leastE; rw [if_neg hb]
      exact ⟨h1, by unfold leastR; rw [h1, if_neg hb]⟩)
    clear hb
    go_enter Try.func20, Try.ntmps20
    go_wp2_with fail
    refine hcon.out.mono ?_
    rintro e w4 ⟨rfl, g4⟩
    go_wp2_with fail
    go_ret2
    exact ⟨by rw [HP.out.1, HP.out.2]; rfl, h3.gr.trans g4⟩
end
section
theorem enum_mem {f : Fl} {lo hi x : List Int} (hw : worksB f x = true) (hl : x.length = lo.length) : ∀ (k : Nat) (pre : List Int), pre.length + k = lo.length → (∀ c, c < pre.length → pre[c]?.getD 0 = x[c]?.getD 0) → (∀ c, pre.length ≤ c → c < lo.length → lo[c]?.getD 0 ≤ x[c]?.getD 0 ∧ x[c]?.getD 0 ≤ hi[c]?.getD 0) → x ∈ enum f lo hi k pre := by
  intro k
  induction k with
  | zero =>
    intro pre hp hpre _
    have : pre = x := (eqUpto_iff (by omega)).1 (fun j hj => hpre j hj)
    subst this
    simp [enum, hw]
  | succ k ih =>
    intro pre hp hpre hb
    have h1 := hb pre.length (Nat.le_refl _) (by omega)
    simp only [enum, List.mem_flatMap, List.mem_range]
    refine ⟨(x[pre.length]?.getD 0 - lo[pre.length]?.getD 0).toNat, by omega, ih _ (by simp; omega) (fun c hc => ?_) (fun c hc hlt => hb c (by simp at hc; omega) hlt)⟩
    by_cases e : c = pre.length
    · subst e; simp; omega
    · rw [List.getElem?_append_left (by simp at hc; omega)]; exact hpre c (by simp at hc; omega)
theorem enum_has {f : Fl} {lo hi x : List Int} (hw : worksB f x = true) (hb : Btw lo hi x) : x ∈ enum f lo hi lo.length [] :=
  enum_mem hw hb.len lo.length [] (by simp) (fun c hc => by simp at hc) (fun c _ hc => ⟨hb.ge c hc, hb.le c hc⟩)

theorem aboveV_refl (s : List Int) : aboveV s s = true := aboveV_true rfl (fun _ _ => Int.le_refl _)
theorem btw_end {s to : List Int} (hl : s.length = to.length) (ha : aboveV to s = true) : Btw s to to := ⟨hl.symm, fun c hc => aboveV_le ha c (by omega), fun _ _ => Int.le_refl _⟩
theorem Btw.above {lo hi s : List Int} (h : Btw lo hi s) : aboveV s lo = true := aboveV_true rfl (fun j hj => h.ge j (by rw [← h.len]; exact hj))
theorem Btw.below {lo hi s : List Int} (h : Btw lo hi s) (hl : lo.length = hi.length) : aboveV hi s = true := aboveV_true rfl (fun j hj => h.le j (by omega))

theorem dur_pos {f : Fl} {s t : List Int} (hok : FlOk f) (hs : StOk f s) (ht : StOk f t) (ha : aboveV t s = true) (hne : s ≠ t) : 0 < dur f.times s t := by
  have hab := aboveV_le ha
  have hz := durTo_zero_iff hok (fun c hc => (hs.ver c hc).1) ht (fun c hc => hab c (by rw [ht.len]; exact hc)) f.times.length (Nat.le_refl _)
  have hb := dur_bd hok hs ht ha
  have hd : dur f.times s t = durTo f.times s t f.times.length := by unfold dur; rw [ht.len]
  by_cases h0 : dur f.times s t = 0
  · rw [hd] at h0
    have := hz.1 h0
    exact absurd ((eqUpto_iff (by rw [hs.len, ht.len])).1 (fun j hj => (this j (by rw [← hs.len]; exact hj)).symm)) hne
  · omega

/-- when some rest is found -/
theorem fold_some {T : List (List Int)} {bu : Int} {s : List Int} {rec : List Int → Rs} : ∀ (l : List (List Int)) (b : Rs), ((l.foldl (bestStep T bu s rec) b).is = true ↔ b.is = true ∨ ∃ x ∈ l, stepsB T s x bu = true ∧ (rec x).is = true) := by
  intro l
  induction l with
  | nil => intro b; simp
  | cons x l ih =>
    intro b
    rw [List.foldl_cons, ih]
    have hstep : (bestStep T bu s rec b x).is = true ↔ b.is = true ∨ (stepsB T s x bu = true ∧ (rec x).is = true) := by
      unfold bestStep
      cases hs : stepsB T s x bu with
      | false => simp
      | true =>
        cases hr : (rec x).is with
        | false => simp
        | true =>
          cases hb : b.is with
          | false => simp [Rs.via]
          | true => simp; split <;> simp [Rs.via, hb]
    rw [hstep]
    constructor
    · rintro ((h | h) | ⟨y, hy, h⟩)
      · exact .inl h
      · exact .inr ⟨x, by simp, h⟩
      · exact .inr ⟨y, by simp [hy], h⟩
    · rintro (h | ⟨y, hy, h⟩)
      · exact .inl (.inl h)
      · rcases List.mem_cons.1 hy with rfl | hy
        · exact .inl (.inr h)
        · exact .inr ⟨y, hy, h⟩

/-- when the fold of Least is small -/
theorem foldLe_le {T : List (List Int)} {s : List Int} {rec : List Int → Int} {bu : Int} : ∀ (l : List (List Int)) (b : Int), (l.foldl (leastStep T s rec) b ≤ bu ↔ b ≤ bu ∨ ∃ x ∈ l, 0 < dur T s x ∧ dur T s x ≤ bu ∧ rec x ≤ bu) := by
  intro l
  induction l with
  | nil => intro b; simp
  | cons x l ih =>
    intro b
    rw [List.foldl_cons, ih]
    have hstep : leastStep T s rec b x ≤ bu ↔ b ≤ bu ∨ (0 < dur T s x ∧ dur T s x ≤ bu ∧ rec x ≤ bu) := by
      unfold leastStep
      split <;> omega
    rw [hstep]
    constructor
    · rintro ((h | h) | ⟨y, hy, h⟩)
      · exact .inl h
      · exact .inr ⟨x, by simp, h⟩
      · exact .inr ⟨y, by simp [hy], h⟩
    · rintro (h | ⟨y, hy, h⟩)
      · exact .inl (.inl h)
      · rcases List.mem_cons.1 hy with rfl | hy
        · exact .inl (.inr h)
        · exact .inr ⟨y, hy, h⟩

theorem best_iff_least {f : Fl} {to : List Int} {bu : Int} (hok : FlOk f) (hto : StOk f to) (hwto : worksB f to = true) (hbu : 0 ≤ bu) : ∀ (k : Nat) (s : List Int), gap s to ≤ k → StOk f s → aboveV to s = true → ((bestV f to bu s).is = true ↔ leastV f to s ≤ bu) := by
  intro k
  induction k with
  | zero =>
    intro s hk hs ha
    have hl : s.length = to.length := by rw [hs.len, hto.len]
    have := above_gap_zero hl ha (by omega)
    subst this
    rw [bestV_eq rfl, if_pos rfl, leastV_end]
    simp [Rs.fin, hbu]
  | succ k ih =>
    intro s hk hs ha
    have hl : s.length = to.length := by rw [hs.len, hto.len]
    by_cases he : s = to
    · subst he
      rw [bestV_eq rfl, if_pos rfl, leastV_end]
      simp [Rs.fin, hbu]
    · rw [bestV_eq hl, if_neg he, ha, if_pos rfl, leastV_eq hl ha he, fold_some, foldLe_le]
      have hsub : ∀ x, x ∈ enum f s to s.length [] → ((stepsB f.times s x bu = true ∧ (bestV f to bu x).is = true) ↔ (0 < dur f.times s x ∧ dur f.times s x ≤ bu ∧ leastV f to x ≤ bu)) := by
        intro x hx
        have hb := (enum_between hx).1
        have hsx := hs.btw hto hb
        constructor
        · rintro ⟨h1, h2⟩
          obtain ⟨_, hne, hd⟩ := stepsB_true h1
          have hg := gap_lt (hl := hl) hb hne
          exact ⟨dur_pos hok hs hsx hb.above hne, hd, (ih x (by omega) hsx (hb.below hl)).1 h2⟩
        · rintro ⟨h1, h2, h3⟩
          have hne : s ≠ x := fun e => by subst e; rw [dur_self] at h1; omega
          have hg := gap_lt (hl := hl) hb hne
          exact ⟨by simp [stepsB, hb.above, hne, h2], (ih x (by omega) hsx (hb.below hl)).2 h3⟩
      constructor
      · rintro (h | ⟨x, hx, h⟩)
        · simp [Rs.no] at h
        · exact .inr ⟨x, hx, (hsub x hx).1 h⟩
      · rintro (h | ⟨x, hx, h⟩)
        · have hm := enum_has hwto (btw_end hl ha)
          exact .inr ⟨to, hm, (hsub to hm).2 ⟨dur_pos hok hs hto ha he, h, by rw [leastV_end]; exact hbu⟩⟩
        · exact .inr ⟨x, hx, (hsub x hx).2 h⟩

theorem fold_pos {T : List (List Int)} {s : List Int} {rec : List Int → Int} : ∀ (l : List (List Int)) (b : Int), 0 < b → 0 < l.foldl (leastStep T s rec) b := by
  intro l
  induction l with
  | nil => intro b h; exact h
  | cons x l ih =>
    intro b h
    rw [List.foldl_cons]
    refine ih _ ?_
    unfold leastStep
    split <;> omega

theorem leastV_pos {f : Fl} {to s : List Int} (hok : FlOk f) (hs : StOk f s) (hto : StOk f to) (ha : aboveV to s = true) (he : s ≠ to) : 0 < leastV f to s := by
  rw [leastV_eq (by rw [hs.len, hto.len]) ha he]
  exact fold_pos _ _ (dur_pos hok hs hto ha he)
theorem leastV_bd {f : Fl} {to s : List Int} (hok : FlOk f) (hs : StOk f s) (hto : StOk f to) (ha : aboveV to s = true) : 0 ≤ leastV f to s ∧ leastV f to s ≤ 60000 := by
  by_cases he : s = to
  · subst he; rw [leastV_end]; omega
  · refine ⟨Int.le_of_lt (leastV_pos hok hs hto ha he), ?_⟩
    rw [leastV_eq (by rw [hs.len, hto.len]) ha he, foldLe_le]
    exact .inl (dur_bd hok hs hto ha).2

theorem withinB_bu {bu : Int} (h0 : 0 ≤ bu) (h1 : bu ≤ 1000000) : withinB bu 0 1000000 = true := withinB_eq_true ⟨h0, h1⟩

/-- Plan's error at any budget, by Least's -/
theorem planE_of_least {f : Fl} {a b : List Int} {bu : Int} (h0 : 0 ≤ bu) (h1 : bu ≤ 1000000) : planE f a b bu = if leastE f a b = 0 then (if leastV f b a ≤ bu then 0 else 112) else leastE f a b := by
  by_cases hz : statesE f [a, b] = 0
  · obtain ⟨hok, hsa, hsb⟩ := statesE_ok2 hz
    have hbe : beginE f bu [a, b] = 0 := by unfold beginE; rw [if_pos hz, withinB_bu h0 h1]; rfl
    unfold planE plannedE leastE
    rw [if_pos hbe, if_pos hz]
    cases hw : (worksB f a && worksB f b) with
    | false => simp
    | true =>
      have hwb : worksB f b = true := by simp at hw; exact hw.2
      simp only [if_true]
      cases ha : aboveV b a with
      | false =>
        have hne : ¬ a = b := fun e => by subst e; rw [aboveV_refl] at ha; cases ha
        have : (bestV f b bu a).is = false := by rw [bestV_eq (by rw [hsa.len, hsb.len]), if_neg hne, ha]; rfl
        simp [this]
      | true =>
        have hi := best_iff_least hok hsb hwb h0 (gap a b) a (Nat.le_refl _) hsa ha
        by_cases hle : leastV f b a ≤ bu
        · rw [hi.2 hle]; simp [hle]
        · have : (bestV f b bu a).is = false := by
            cases h : (bestV f b bu a).is with
            | false => rfl
            | true => exact absurd (hi.1 h) hle
          simp [this, hle]
  · have hbe : beginE f bu [a, b] = statesE f [a, b] := by unfold beginE; rw [if_neg hz]
    unfold planE plannedE leastE
    simp [hbe, hz]
end
section
open Go.RowKit

def exF : Fl := ⟨[[5, 8], [4], [6]], [⟨0, 1, 1, 0⟩, ⟨0, 2, 2, 0⟩]⟩
theorem ex_plan : planV exF [0, 0, 0] [2, 1, 1] 8 = [[0, 0, 1], [0, 1, 1], [2, 1, 1]] := by kernel_rfl
theorem ex_planE : planE exF [0, 0, 0] [2, 1, 1] 8 = 0 := by kernel_rfl
theorem ex_least : leastR exF [0, 0, 0] [2, 1, 1] = 8 := by kernel_rfl
theorem ex_leastE : leastE exF [0, 0, 0] [2, 1, 1] = 0 := by kernel_rfl

theorem rows_eq {L M : List (List Int)} {n : Nat} (hL : L.length = n) (hM : M.length = n) (h : ∀ j, j < n → L[j]?.getD [] = M[j]?.getD []) : L = M := by
  apply List.ext_getElem?
  intro i
  by_cases hi : i < n
  · have := h i hi
    have h1 : i < L.length := by omega
    have h2 : i < M.length := by omega
    simp [h1, h2] at this ⊢
    exact this
  · rw [List.getElem?_eq_none (by omega), List.getElem?_eq_none (by omega)]

set_option maxHeartbeats 1000000 in
theorem sameStates_any (a b : Option Addr) (n c m d : Nat) (L M : List (List Int)) (w : World) (hL : RowsAt w a n L) (hM : RowsAt w b m M) :
    Calls Try.prog 19 #[.slice a n c, .slice b m d] w fun e w' => e = .returned (.bool (decide (L = M))) ∧ Gr w w' := by
  have hn := hL.lt
  have hm := hM.lt
  by_cases hnm : n = m
  · subst hnm
    have hne : ((n : Int) != (n : Int)) = false := by simp
    have HLn := Lib.hid hL.len
    have HMn := Lib.hid hM.len
    go_enter Try.func19, Try.ntmps19
    go_wp2_with fail
    go_loopw [5] (fun i wr => ∃ k : Nat, k ≤ n ∧ i = .int .i64 k ∧ Gr w wr ∧ Hid (∀ j, j < k → L[j]?.getD [] = M[j]?.getD [])) (fun i _ => n - (intOf i).toNat)
    case atStart => exact ⟨0, Nat.zero_le _, rfl, Gr.refl _, Lib.hid (fun j hj => by omega)⟩
    case round =>
      obtain ⟨k, hk, rfl, hg, hj⟩ := hrel
      by_cases hlt : k < n
      · obtain ⟨ad, a', n', c', rfl, hab, hac, hai⟩ := (hL.gr hg).at hlt
        obtain ⟨bd, b', m', d', rfl, hbb, hbc, hbi⟩ := (hM.gr hg).at hlt
        have hq : ∀ k', Hid (Calls Try.prog 22 #[.slice a' n' c', .slice b' m' d'] (wr.drewN k') fun e w' => e = .returned (.bool (decide (L[k]?.getD [] = M[k]?.getD []))) ∧ ∃ q, w' = (wr.drewN k').drewN q) := fun k' => Lib.hid (sameInts_any a' b' n' c' m' d' _ _ (wr.drewN k') (hai.gr (Gr.drewN _ _)) (hbi.gr (Gr.drewN _ _)))
        have HQ := Lib.hid hq
        clear hq
        go_wp2_with fail
        go_quiet ((go_at_call 22; exact Calls.quiet_of (HQ.out _).out))
        cases he : decide (L[k]?.getD [] = M[k]?.getD []) with
        | true =>
          have he' : L[k]?.getD [] = M[k]?.getD [] := of_decide_eq_true he
          have HE := Lib.hid he'
          clear he he'
          go_wp2_with fail
          go_roundw
          case rel => exact ⟨k + 1, by omega, by go_num, hg.drewNR _, Lib.hid (fun j hj' => by
            by_cases e : j = k
            · subst e; exact HE.out
            · exact hj.out j (by omega))⟩
          case measure => simp [intOf]; omega
        | false =>
          have he' : ¬ L[k]?.getD [] = M[k]?.getD [] := of_decide_eq_false he
          have hne2 : Hid (decide (L = M) = false) := Lib.hid (decide_eq_false (fun e => he' (by rw [e])))
          clear he he'
          go_wp2_with fail
          go_ret
          exact ⟨by rw [hne2.out]; rfl, hg.drewNR _⟩
      · obtain rfl : k = n := by omega
        have heq : Hid (decide (L = M) = true) := Lib.hid (decide_eq_true (rows_eq HLn.out HMn.out hj.out))
        go_wp2_with fail
        go_ret
        exact ⟨by rw [heq.out]; rfl, hg⟩
  · have hne : ((n : Int) != (m : Int)) = true := by simp; omega
    have hne2 : Hid (decide (L = M) = false) := Lib.hid (decide_eq_false (fun e => hnm (by rw [← hL.len, ← hM.len, e])))
    go_enter Try.func19, Try.ntmps19
    go_wp2_with fail
    go_ret
    exact ⟨by rw [hne2.out]; rfl, Gr.refl _⟩
end
section
open Go.RowKit

def ExPost (w : World) (e : Ending) (w' : World) : Prop := ∃ ta tc ca cc, e = .returned (.agg #[.slice ta 3 tc, .slice ca 2 cc]) ∧ FlAt w' ta 3 ca 2 exF ∧ Gr w w'

theorem heap_alloc_at (w : World) (o : Obj) (k : Nat) : (w.alloc o).heap[k]? = if k = w.heap.size then some o else w.heap[k]? := by
  by_cases h : k = w.heap.size
  · subst h; rw [if_pos rfl]; exact World.alloc_heap_new w o
  · rw [if_neg h]
    by_cases h2 : k < w.heap.size
    · exact Below.heap_alloc w o k h2
    · rw [Array.getElem?_eq_none (by simp; omega), Array.getElem?_eq_none (by omega)]
theorem cell_at {w : World} {b j : Nat} {cs : Array Value} {t : TypeId} {fr : Nat × Nat} {v : Value} (h : w.heap[b]? = some (.cells cs t fr)) (hv : cs[j]? = some v) : w.cell? ⟨b, j, none⟩ = some v := by
  unfold World.cell?
  simp only [h]
  exact hv
/-- a block of numbers reads as a list -/
theorem ints_at {w : World} {b : Nat} {t : TypeId} {fr : Nat × Nat} {xs : List Int} (h : w.heap[b]? = some (.cells (xs.map (Value.int .i64)).toArray t fr)) (hl : xs.length < 1152921504606846976) : Ints w (some ⟨b, 0, none⟩) xs.length xs := by
  refine ⟨rfl, hl, fun j hj => ⟨⟨b, 0, none⟩, rfl, (Array.getElem?_eq_some_iff.1 h).1, ?_⟩⟩
  have e : ((⟨b, 0, none⟩ : Addr).add j) = ⟨b, j, none⟩ := by
    unfold Addr.add; split
    · subst_vars; rfl
    · simp
  rw [e]
  exact cell_at h (by simp [hj])
theorem rows3 {w : World} {B : Nat} {t : TypeId} {fr : Nat × Nat} {a1 a2 a3 : Option Addr} {n1 c1 n2 c2 n3 c3 : Nat} {x1 x2 x3 : List Int} (h : w.heap[B]? = some (.cells #[.slice a1 n1 c1, .slice a2 n2 c2, .slice a3 n3 c3] t fr)) (h1 : Ints w a1 n1 x1) (h2 : Ints w a2 n2 x2) (h3 : Ints w a3 n3 x3) : RowsAt w (some ⟨B, 0, none⟩) 3 [x1, x2, x3] := by
  have hB := (Array.getElem?_eq_some_iff.1 h).1
  refine ⟨rfl, by omega, fun j hj => ?_⟩
  match j, hj with
  | 0, _ => exact ⟨_, a1, n1, c1, rfl, hB, cell_at h rfl, h1⟩
  | 1, _ => exact ⟨_, a2, n2, c2, rfl, hB, cell_at h rfl, h2⟩
  | 2, _ => exact ⟨_, a3, n3, c3, rfl, hB, cell_at h rfl, h3⟩

theorem ex_fleet {w : World} {b : Nat} (h1 : w.heap[b + 1]? = some (.cells #[.int .i64 5, .int .i64 8] 3)) (h2 : w.heap[b + 1 + 1]? = some (.cells #[.int .i64 4] 3)) (h3 : w.heap[b + 1 + 1 + 1]? = some (.cells #[.int .i64 6] 3))
    (h4 : w.heap[b + 1 + 1 + 1 + 1]? = some (.cells #[.slice (some ⟨b + 1, 0, none⟩) 2 2, .slice (some ⟨b + 1 + 1, 0, none⟩) 1 1, .slice (some ⟨b + 1 + 1 + 1, 0, none⟩) 1 1] 26))
    (h5 : w.heap[b + 1 + 1 + 1 + 1 + 1]? = some (.cells #[.int .i64 0, .int .i64 1, .int .i64 1, .int .i64 0, .int .i64 0, .int .i64 2, .int .i64 2, .int .i64 0] 70)) :
    FlAt w (some ⟨b + 1 + 1 + 1 + 1, 0, none⟩) 3 (some ⟨b + 1 + 1 + 1 + 1 + 1, 0, none⟩) 2 exF := by
  refine ⟨rows3 h4 (ints_at (xs := [5, 8]) h1 (by simp)) (ints_at (xs := [4]) h2 (by simp)) (ints_at (xs := [6]) h3 (by simp)), rfl, by omega, fun j hj => ?_⟩
  have hB := (Array.getElem?_eq_some_iff.1 h5).1
  match j, hj with
  | 0, _ => exact ⟨_, rfl, hB, cell_at h5 rfl, cell_at h5 rfl, cell_at h5 rfl, cell_at h5 rfl⟩
  | 1, _ => exact ⟨_, rfl, hB, cell_at h5 rfl, cell_at h5 rfl, cell_at h5 rfl, cell_at h5 rfl⟩

set_option maxHeartbeats 1000000 in
theorem example_any (w : World) : Calls Try.prog 46 #[] w (ExPost w) := by
  go_enter Try.func46, Try.ntmps46
  go_wp2_with fail
  refine bodyPost_ret (v := .agg #[.slice (some ⟨w.heap.size + 1 + 1 + 1 + 1, 0, none⟩) 3 3, .slice (some ⟨w.heap.size + 1 + 1 + 1 + 1 + 1, 0, none⟩) 2 2]) (by simp [results, Try.results46, go_sem]) rfl ⟨_, _, _, _, rfl, ?_, (((((Gr.alloc _ _).allocR _).allocR _).allocR _).allocR _).allocR _⟩
  refine ex_fleet ?_ ?_ ?_ ?_ ?_ <;> simp only [heap_alloc_at, World.size_alloc] <;> simp
end
section
open Go.RowKit

/-- two new states -/
structure TwoSt (w w' : World) (xs ys : List Int) : Prop where
  gr : Gr w w'
  a : Ints w' (some ⟨w.heap.size, 0, none⟩) 3 xs
  b : Ints w' (some ⟨w.heap.size + 1, 0, none⟩) 3 ys
theorem twoSt (w : World) (x0 x1 x2 y0 y1 y2 : Int) : TwoSt w ((w.alloc (.cells #[.int .i64 x0, .int .i64 x1, .int .i64 x2] 3)).alloc (.cells #[.int .i64 y0, .int .i64 y1, .int .i64 y2] 3)) [x0, x1, x2] [y0, y1, y2] := by
  refine ⟨(Gr.alloc _ _).allocR _, ints_at (xs := [x0, x1, x2]) (t := 3) (fr := (0, 0)) ?_ (by simp), ints_at (xs := [y0, y1, y2]) (t := 3) (fr := (0, 0)) ?_ (by simp)⟩
  · simp only [heap_alloc_at, World.size_alloc]; simp
  · simp only [heap_alloc_at, World.size_alloc]; simp
/-- three new states in a list -/
theorem threeSt (w : World) (x0 x1 x2 y0 y1 y2 z0 z1 z2 : Int) :
    RowsAt ((((w.alloc (.cells #[.int .i64 x0, .int .i64 x1, .int .i64 x2] 3)).alloc (.cells #[.int .i64 y0, .int .i64 y1, .int .i64 y2] 3)).alloc (.cells #[.int .i64 z0, .int .i64 z1, .int .i64 z2] 3)).alloc
      (.cells #[.slice (some ⟨w.heap.size, 0, none⟩) 3 3, .slice (some ⟨w.heap.size + 1, 0, none⟩) 3 3, .slice (some ⟨w.heap.size + 1 + 1, 0, none⟩) 3 3] 26)) (some ⟨w.heap.size + 1 + 1 + 1, 0, none⟩) 3 [[x0, x1, x2], [y0, y1, y2], [z0, z1, z2]] := by
  refine rows3 (a1 := some ⟨w.heap.size, 0, none⟩) (a2 := some ⟨w.heap.size + 1, 0, none⟩) (a3 := some ⟨w.heap.size + 1 + 1, 0, none⟩) (n1 := 3) (n2 := 3) (n3 := 3) (c1 := 3) (c2 := 3) (c3 := 3) (t := 26) (fr := (0, 0)) ?_ (ints_at (xs := [x0, x1, x2]) (t := 3) (fr := (0, 0)) ?_ (by simp)) (ints_at (xs := [y0, y1, y2]) (t := 3) (fr := (0, 0)) ?_ (by simp)) (ints_at (xs := [z0, z1, z2]) (t := 3) (fr := (0, 0)) ?_ (by simp)) <;>
    simp only [heap_alloc_at, World.size_alloc]
  · simp
  · rw [if_neg (by omega), if_neg (by omega), if_neg (by omega), if_pos trivial]; rfl
  · rw [if_neg (by omega), if_neg (by omega), if_pos trivial]; rfl
  · rw [if_neg (by omega), if_pos trivial]; rfl

set_option maxHeartbeats 1000000 in
theorem look_any (w : World) : Calls Try.prog 16 #[] w fun e w' => e = .returned (.bool true) ∧ Gr w w' := by
  have HE := Lib.hid example_any
  go_enter Try.func16, Try.ntmps16
  go_wp2_with fail
  refine (HE.out w).mono ?_
  rintro e w1 ⟨ta, tc, ca, cc, rfl, hf1, g1⟩
  have h2 := twoSt w1 0 0 0 2 1 1
  obtain ⟨w2, hw2⟩ : ∃ w2, (w1.alloc (.cells #[.int .i64 0, .int .i64 0, .int .i64 0] 3)).alloc (.cells #[.int .i64 2, .int .i64 1, .int .i64 1] 3) = w2 := ⟨_, rfl⟩
  rw [hw2] at h2
  have hp := plan_any ta ca (some ⟨w1.heap.size, 0, none⟩) (some ⟨w1.heap.size + 1, 0, none⟩) 3 tc 2 cc 3 3 3 3 exF [0, 0, 0] [2, 1, 1] 8 w2 (hf1.gr h2.gr) h2.a h2.b
  rw [ex_plan, ex_planE] at hp
  have HP := Lib.hid hp
  clear hp
  go_wp2_with fail
  refine HP.out.mono ?_
  rintro e w3 ⟨ra, rn, rc, rfl, hr3, g3⟩
  clear hw2 HP
  have G3 := (g1.trans h2.gr).trans g3
  clear h2 hf1 g1 g3
  go_wp2_with fail
  refine (HE.out w3).mono ?_
  rintro e w4 ⟨ta4, tc4, ca4, cc4, rfl, hf4, g4⟩
  have h5 := twoSt w4 0 0 0 2 1 1
  obtain ⟨w5, hw5⟩ : ∃ w5, (w4.alloc (.cells #[.int .i64 0, .int .i64 0, .int .i64 0] 3)).alloc (.cells #[.int .i64 2, .int .i64 1, .int .i64 1] 3) = w5 := ⟨_, rfl⟩
  rw [hw5] at h5
  have hl := leastF_any ta4 ca4 (some ⟨w4.heap.size, 0, none⟩) (some ⟨w4.heap.size + 1, 0, none⟩) 3 tc4 2 cc4 3 3 3 3 exF [0, 0, 0] [2, 1, 1] w5 (hf4.gr h5.gr) h5.a h5.b
  rw [ex_least, ex_leastE] at hl
  have HL := Lib.hid hl
  clear hl
  go_wp2_with fail
  refine HL.out.mono ?_
  rintro e w6 ⟨rfl, g6⟩
  clear hw5 HL
  have G36 := (g4.trans h5.gr).trans g6
  have hr6 := hr3.gr G36
  have G6 := G3.trans G36
  clear h5 hf4 g4 g6 hr3 G3 G36 HE
  have h7 := threeSt w6 0 0 1 0 1 1 2 1 1
  have g7 := (((Gr.alloc w6 (.cells #[.int .i64 0, .int .i64 0, .int .i64 1] 3)).allocR (.cells #[.int .i64 0, .int .i64 1, .int .i64 1] 3)).allocR (.cells #[.int .i64 2, .int .i64 1, .int .i64 1] 3)).allocR (.cells #[.slice (some ⟨w6.heap.size, 0, none⟩) 3 3, .slice (some ⟨w6.heap.size + 1, 0, none⟩) 3 3, .slice (some ⟨w6.heap.size + 1 + 1, 0, none⟩) 3 3] 26)
  obtain ⟨w7, hw7⟩ : ∃ w7, (((w6.alloc (.cells #[.int .i64 0, .int .i64 0, .int .i64 1] 3)).alloc (.cells #[.int .i64 0, .int .i64 1, .int .i64 1] 3)).alloc (.cells #[.int .i64 2, .int .i64 1, .int .i64 1] 3)).alloc (.cells #[.slice (some ⟨w6.heap.size, 0, none⟩) 3 3, .slice (some ⟨w6.heap.size + 1, 0, none⟩) 3 3, .slice (some ⟨w6.heap.size + 1 + 1, 0, none⟩) 3 3] 26) = w7 := ⟨_, rfl⟩
  rw [hw7] at h7 g7
  have hs := sameStates_any ra (some ⟨w6.heap.size + 1 + 1 + 1, 0, none⟩) rn rc 3 3 _ _ w7 (hr6.gr g7) h7
  rw [decide_eq_true rfl] at hs
  have HS := Lib.hid hs
  clear hs
  go_wp2_with fail
  refine HS.out.mono ?_
  rintro e w8 ⟨rfl, g8⟩
  clear hw7
  go_wp2_with fail
  go_ret
  exact ⟨rfl, (G6.trans g7).trans g8⟩
end
section
open Go.RowKit

/-- the first step of a plan that is none, and why -/
def cpLoop (f : Fl) (bu : Int) : List Int → List (List Int) → Int → Int × Int
  | _, [], _ => (0, 0)
  | p, s :: r, i => if worksB f s then (if stepsB f.times p s bu then cpLoop f bu s r (i + 1) else (i, 112)) else (i, 111)
def cpPre (f : Fl) (a : List Int) (L : List (List Int)) (bu : Int) : Int := if chkE f = 0 then (if 64 < L.length then 1 else beginE f bu (a :: L)) else chkE f
/-- what CheckPlan returns -/
def cpR (f : Fl) (a : List Int) (L : List (List Int)) (bu : Int) : Int × Int := if cpPre f a L bu = 0 then (if worksB f a then cpLoop f bu a L 0 else (-1, 111)) else (0, cpPre f a L bu)

theorem list_pick {α : Type} {P : Nat → α → Prop} (d : α) : ∀ n, (∀ j, j < n → ∃ x, P j x) → ∃ L : List α, L.length = n ∧ ∀ j, j < n → P j (L[j]?.getD d) := by
  intro n
  induction n with
  | zero => intro _; exact ⟨[], rfl, fun j hj => by omega⟩
  | succ n ih =>
    intro h
    obtain ⟨L, hl, hL⟩ := ih (fun j hj => h j (by omega))
    obtain ⟨x, hx⟩ := h n (by omega)
    refine ⟨L ++ [x], by simp [hl], fun j hj => ?_⟩
    by_cases e : j = n
    · subst e; rw [← hl]; simpa [hl] using hx
    · rw [List.getElem?_append_left (by omega)]; exact hL j (by omega)

/-- the cells of a list of states -/
theorem RowsAt.vals {w : World} {ad : Addr} {n : Nat} {L : List (List Int)} (h : RowsAt w (some ad) n L) : ∃ vs : List Value, vs.length = n ∧ ∀ j, j < n → ∃ a' n' c', vs[j]? = some (.slice a' n' c') ∧ w.cell? (ad.add j) = some (.slice a' n' c') ∧ Ints w a' n' (L[j]?.getD []) := by
  obtain ⟨vs, h1, h2⟩ := list_pick (P := fun j (v : Value) => ∃ a' n' c', v = .slice a' n' c' ∧ w.cell? (ad.add j) = some (.slice a' n' c') ∧ Ints w a' n' (L[j]?.getD [])) undef n (fun j hj => by
    obtain ⟨ad', a', n', c', e, _, hc, hi⟩ := h.at hj
    cases e
    exact ⟨_, a', n', c', rfl, hc, hi⟩)
  refine ⟨vs, h1, fun j hj => ?_⟩
  obtain ⟨a', n', c', e, hc, hi⟩ := h2 j hj
  have hlt : j < vs.length := by omega
  refine ⟨a', n', c', ?_, hc, hi⟩
  simp [hlt] at e
  simp [hlt, e]

theorem src_none (w : World) (pa : Option Addr) (pc : Nat) : Src Try.prog 1 22 (.slice pa 0 pc) 0 [] w := by
  refine ⟨.inl ⟨26, Try.underlying22⟩, fun w' => ?_, ?_, ?_, rfl, fun u hu => by simp at hu⟩
  · simp [Builtin.lenOf]
  · cases pa <;> simp [Builtin.firstCells, loadCells, loadCellsFrom]
  · cases pa <;> simp [Builtin.firstCells, loadCells, loadCellsFrom]

/-- append of a list of states to a new list of one state -/
theorem cp_append {o : Oper} {a : Act} {w3 W : World} {K : Act → World → Prop} {Q : Exit → Act → World → Prop} {s x : Operand} {sa pa : Option Addr} {n c pn pc g : Nat} {xs : List Int} {L : List (List Int)}
    (ho : o.op = .call { callee := .builtin .append, args := #[s, x], argTypes := #[22, 22] }) (hs : a.eval s = .slice (some ⟨g, 0, none⟩) 1 1) (hx : a.eval x = .slice pa pn pc)
    (hg : W.heap[g]? = some (.cells #[.slice sa n c] 26 (0, 0))) (hge : w3.heap.size ≤ g) (hgr : Gr w3 W) (hi : Ints w3 sa n xs) (hL : RowsAt w3 pa pn L) (h64 : pn ≤ 64)
    (h : ∀ ra rc w6, RowsAt w6 ra (pn + 1) (xs :: L) → Gr w3 w6 → K (a.put o.dst (.slice ra (pn + 1) rc)) w6) : o.wp Try.prog a W K Q := by
  obtain ⟨i0, hi0, hz0, hz1, hz2⟩ := info_parts Try.info26
  have hgl : g < W.heap.size := (Array.getElem?_eq_some_iff.1 hg).1
  by_cases hp : pn = 0
  · subst hp
    have hL0 : L = [] := List.eq_nil_of_length_eq_zero hL.len
    subst hL0
    have hsrc := src_none W pa pc
    rw [← hz1] at hsrc
    have hrun := run_append_nothing (P := Try.prog) W 22 22 o.type 26 i0 Try.underlying22 hi0 (some ⟨g, 0, none⟩) 1 1 (Nat.le_refl _) _ hsrc
    unfold Oper.wp execOp
    simp only [ho, resolve, invoke, builtin, Sem.run_bind, Sem.run_pure, Result.andThen_ok, List.map_toArray, List.map_cons, List.map_nil, hs, hx, hrun]
    exact h _ _ _ (rows1 (c := c) hgl (cell_at hg rfl) (hi.gr hgr)) hgr
  · obtain ⟨ad, a', n', c', rfl, _⟩ := hL.at (j := 0) (by omega)
    obtain ⟨vs, hv1, hv2⟩ := (hL.gr hgr).vals
    have hown : W.ownsRow w3.heap.size 26 1 (.slice (some ⟨g, 0, none⟩) 1 1) 1 [.slice sa n c] := ⟨rfl, .inr ⟨g, 1, #[.slice sa n c], rfl, hge, hg, Nat.le_refl _, by unfold maxLen; omega, rfl, rfl⟩⟩
    refine wp_append_own W s x 22 ho w3.heap.size 26 i0 (.slice none 0 0) 1 24 Try.underlying22 hi0 hz0 hz1 hz2 rfl (by decide) _ 1 _ hs hown ad pn pc vs hx (by rw [hv1, Nat.mul_one]) (fun j u hu => ?_) (fun u hu => ?_) (by unfold maxLen; omega) (by omega) hgr.size (fun v' w6 hown' hgrow _ => ?_)
    · have hj : j < pn := by have := (List.getElem?_eq_some_iff.1 hu).1; omega
      obtain ⟨a1, n1, c1, e, hc, _⟩ := hv2 j hj
      rw [e] at hu
      cases hu
      exact hc
    · obtain ⟨j, hj, e⟩ := List.mem_iff_getElem.1 hu
      obtain ⟨a1, n1, c1, e2, _, _⟩ := hv2 j (by omega)
      rw [List.getElem?_eq_getElem hj, e] at e2
      cases e2
      rfl
    · have hO := only_grown hgrow
      have hg6 : Gr w3 w6 := ((hgr.only (fun b => b = g)).trans (hO.mono' (fun i e => by simp [Value.ownBlock] at e; exact e.symm))).gr (fun i hi e => by omega)
      rcases hown'.2 with ⟨_, h0⟩ | ⟨g', cap, cur, rfl, _, hg', _⟩
      · omega
      · have e1 : 1 + pn = pn + 1 := by omega
        rw [e1] at hown' ⊢
        refine h _ _ _ ⟨by simp [hL.len], by omega, fun j hj => ?_⟩ hg6
        have hgl' := (Array.getElem?_eq_some_iff.1 hg').1
        cases j with
        | zero => exact ⟨⟨g', 0, none⟩, sa, n, c, rfl, hgl', hown'.cells (g := g') rfl 0 _ (by simp), hi.gr hg6⟩
        | succ j =>
          obtain ⟨a1, n1, c1, e, _, hi1⟩ := hv2 j (by omega)
          obtain ⟨_, a2, n2, c2, e3, _, hc2, hi2⟩ := hL.at (j := j) (by omega)
          cases e3
          obtain ⟨a3, n3, c3, e4, hc4, _⟩ := hv2 j (by omega)
          have hc2' := (hgr.cell (lt_cell hc2)).trans hc2
          rw [hc2'] at hc4
          cases hc4
          refine ⟨⟨g', 0, none⟩, a2, n2, c2, rfl, hgl', hown'.cells (g := g') rfl (j + 1) _ (by simp [e4]), ?_⟩
          simpa using hi2.gr hg6

structure R23 (w3 : World) (v : Value) (xs : List Int) (L : List (List Int)) (m : Nat) (done : Nat → Bool) (u : Nat → Value) (W : World) : Prop where
  gr : Gr w3 W
  one : done 5 = false → done 3 = true → ∃ g, u 3 = .slice (some ⟨g, 0, none⟩) 1 1 ∧ w3.heap.size ≤ g ∧ W.heap[g]? = some (.cells #[v] 26 (0, 0))
  all : done 5 = true → ∃ ra rc, u 5 = .slice ra m rc ∧ RowsAt W ra m (xs :: L)
theorem R23.start (w3 : World) (v : Value) (xs : List Int) (L : List (List Int)) (m : Nat) (u : Nat → Value) : R23 w3 v xs L m (fun _ => false) u w3.drew := ⟨Gr.drew _, (fun _ h => by cases h), (fun h => by cases h)⟩
theorem R23.quiet {w3 W : World} {v : Value} {xs : List Int} {L : List (List Int)} {m : Nat} {done : Nat → Bool} {u : Nat → Value} (h : R23 w3 v xs L m done u W) {i : Nat} (h3 : 3 ≠ i) (h5 : 5 ≠ i) {x : Value} : R23 w3 v xs L m (upd done i) (fun j => if j = i then x else u j) W := by
  refine ⟨h.gr, ?_, ?_⟩ <;> simp only [upd_ne h3, upd_ne h5, if_neg h3, if_neg h5]
  · exact h.one
  · exact h.all
theorem R23.made {w3 W : World} {v : Value} {xs : List Int} {L : List (List Int)} {m : Nat} {done : Nat → Bool} {u : Nat → Value} (h : R23 w3 v xs L m done u W) (h5 : done 5 = false) : R23 w3 v xs L m (upd done 3) (fun j => if j = 3 then .slice (some ⟨W.heap.size, 0, none⟩) 1 1 else u j) (W.alloc (.cells #[v] 26)) :=
  ⟨h.gr.allocR _, fun _ _ => ⟨W.heap.size, by simp, h.gr.size, World.alloc_heap_new _ _⟩, (fun h => by rw [upd_ne (by decide), h5] at h; cases h)⟩
theorem R23.app {w3 W w6 : World} {v : Value} {xs : List Int} {L : List (List Int)} {m : Nat} {done : Nat → Bool} {u : Nat → Value} (h : R23 w3 v xs L m done u W) {ra : Option Addr} {rc : Nat} (hr : RowsAt w6 ra m (xs :: L)) (g : Gr w3 w6) : R23 w3 v xs L m (upd done 5) (fun j => if j = 5 then .slice ra m rc else u j) w6 :=
  ⟨g, (fun h => by rw [upd_self] at h; cases h), fun _ => ⟨ra, rc, by simp, hr⟩⟩
theorem R23.call {w3 W w6 : World} {v : Value} {xs : List Int} {L : List (List Int)} {m : Nat} {done : Nat → Bool} {u : Nat → Value} (h : R23 w3 v xs L m done u W) (h5 : done 5 = true) {x : Value} (g : Gr W w6) : R23 w3 v xs L m (upd done 6) (fun j => if j = 6 then x else u j) w6 := by
  refine ⟨h.gr.trans g, (fun hh => by rw [upd_ne (by decide), h5] at hh; cases hh), fun _ => ?_⟩
  obtain ⟨ra, rc, e, hr⟩ := h.all h5
  exact ⟨ra, rc, by simpa using e, hr.gr g⟩
end
section
def okPlan (f : Fl) (bu : Int) : List Int → List (List Int) → Prop
  | _, [] => True
  | p, s :: r => worksB f s = true ∧ stepsB f.times p s bu = true ∧ okPlan f bu s r
def planTime (T : List (List Int)) : List Int → List (List Int) → Int
  | _, [] => 0
  | p, s :: r => dur T p s + planTime T s r
def lastOf : List Int → List (List Int) → List Int
  | p, [] => p
  | _, s :: r => lastOf s r

theorem cpLoop_ok {f : Fl} {bu : Int} : ∀ (L : List (List Int)) (p : List Int) (i : Int), ((cpLoop f bu p L i).2 = 0 ↔ okPlan f bu p L) := by
  intro L
  induction L with
  | nil => intro p i; simp [cpLoop, okPlan]
  | cons s r ih =>
    intro p i
    simp only [cpLoop, okPlan]
    cases hw : worksB f s with
    | false => simp
    | true =>
      cases hs : stepsB f.times p s bu with
      | false => simp
      | true => simp [ih]

theorem rsLess_iff (a b : Rs) : rsLess a b = true ↔ a.steps < b.steps ∨ (a.steps = b.steps ∧ a.time < b.time) := by
  unfold rsLess orI cmpI
  simp only [decide_eq_true_eq]
  by_cases h1 : a.steps < b.steps
  · simp [h1]
  · by_cases h2 : b.steps < a.steps
    · simp [h1, h2]; omega
    · have : a.steps = b.steps := by omega
      simp [this]
      by_cases h3 : a.time < b.time
      · simp [h3]
      · by_cases h4 : b.time < a.time <;> simp [h3, h4]

def LexLe (a b : Rs) : Prop := a.steps < b.steps ∨ (a.steps = b.steps ∧ a.time ≤ b.time)
theorem LexLe.trans {a b c : Rs} (h : LexLe a b) (k : LexLe b c) : LexLe a c := by unfold LexLe at *; omega
theorem LexLe.refl (a : Rs) : LexLe a a := .inr ⟨rfl, Int.le_refl _⟩

theorem step_min {T : List (List Int)} {bu : Int} {s x : List Int} {rec : List Int → Rs} (b : Rs) : (b.is = true → (bestStep T bu s rec b x).is = true ∧ LexLe (bestStep T bu s rec b x) b) ∧
    (stepsB T s x bu = true → (rec x).is = true → (bestStep T bu s rec b x).is = true ∧ LexLe (bestStep T bu s rec b x) ((rec x).via T s x)) := by
  unfold bestStep
  cases hs : stepsB T s x bu with
  | false => exact ⟨fun h => ⟨h, LexLe.refl _⟩, fun h => by cases h⟩
  | true =>
    cases hr : (rec x).is with
    | false => exact ⟨fun h => ⟨h, LexLe.refl _⟩, fun _ h => by cases h⟩
    | true =>
      simp only [if_true]
      cases hb : b.is with
      | false =>
        simp only [Bool.not_false, Bool.true_or, if_true]
        exact ⟨fun h => (by cases h), fun _ _ => ⟨rfl, LexLe.refl _⟩⟩
      | true =>
        simp only [Bool.not_true, Bool.false_or]
        cases hl : rsLess ((rec x).via T s x) b with
        | true =>
          have := (rsLess_iff _ _).1 hl
          simp only [if_true]
          exact ⟨fun _ => ⟨rfl, by unfold LexLe; omega⟩, fun _ _ => ⟨rfl, LexLe.refl _⟩⟩
        | false =>
          have : ¬ (((rec x).via T s x).steps < b.steps ∨ (((rec x).via T s x).steps = b.steps ∧ ((rec x).via T s x).time < b.time)) := fun h => by rw [(rsLess_iff _ _).2 h] at hl; cases hl
          simp only [Bool.false_eq_true, if_false]
          exact ⟨fun _ => ⟨hb, LexLe.refl _⟩, fun _ _ => ⟨hb, by unfold LexLe; omega⟩⟩

theorem fold_min {T : List (List Int)} {bu : Int} {s : List Int} {rec : List Int → Rs} : ∀ (l : List (List Int)) (b : Rs), (b.is = true → (l.foldl (bestStep T bu s rec) b).is = true ∧ LexLe (l.foldl (bestStep T bu s rec) b) b) ∧
    (∀ x ∈ l, stepsB T s x bu = true → (rec x).is = true → (l.foldl (bestStep T bu s rec) b).is = true ∧ LexLe (l.foldl (bestStep T bu s rec) b) ((rec x).via T s x)) := by
  intro l
  induction l with
  | nil => intro b; exact ⟨fun h => ⟨h, LexLe.refl _⟩, fun x hx => by simp at hx⟩
  | cons y l ih =>
    intro b
    have h1 := step_min (T := T) (bu := bu) (s := s) (x := y) (rec := rec) b
    have h2 := ih (bestStep T bu s rec b y)
    refine ⟨fun hb => ?_, fun x hx hs hr => ?_⟩
    · have := h1.1 hb
      have k := h2.1 this.1
      exact ⟨k.1, k.2.trans this.2⟩
    · rcases List.mem_cons.1 hx with rfl | hx
      · have := h1.2 hs hr
        have k := h2.1 this.1
        exact ⟨k.1, k.2.trans this.2⟩
      · exact h2.2 x hx hs hr

theorem fold_via {T : List (List Int)} {bu : Int} {s : List Int} {rec : List Int → Rs} : ∀ (l : List (List Int)) (b : Rs), l.foldl (bestStep T bu s rec) b = b ∨ ∃ x ∈ l, l.foldl (bestStep T bu s rec) b = (rec x).via T s x := by
  intro l
  induction l with
  | nil => intro b; exact .inl rfl
  | cons y l ih =>
    intro b
    rw [List.foldl_cons]
    rcases ih (bestStep T bu s rec b y) with h | ⟨x, hx, h⟩
    · rw [h]
      unfold bestStep
      split
      · split
        · split
          · exact .inr ⟨y, by simp, rfl⟩
          · exact .inl rfl
        · exact .inl rfl
      · exact .inl rfl
    · exact .inr ⟨x, by simp [hx], h⟩

/-- a rest that is found leads over its next state -/
theorem bestV_via {f : Fl} {to : List Int} {bu : Int} {s : List Int} (hl : s.length = to.length) (hne : s ≠ to) (h : (bestV f to bu s).is = true) :
    bestV f to bu s = (bestV f to bu (bestV f to bu s).nxt).via f.times s (bestV f to bu s).nxt := by
  have he := bestV_eq (f := f) (bu := bu) hl
  rw [if_neg hne] at he
  cases ha : aboveV to s with
  | false => rw [ha] at he; simp at he; rw [he] at h; simp [Rs.no] at h
  | true =>
    rw [ha, if_pos rfl] at he
    rcases fold_via (T := f.times) (bu := bu) (s := s) (rec := bestV f to bu) (enum f s to s.length []) Rs.no with h1 | ⟨x, _, h1⟩
    · rw [he, h1] at h; simp [Rs.no] at h
    · rw [← he] at h1
      have hn : (bestV f to bu s).nxt = x := by rw [h1]; rfl
      rw [hn]
      exact h1

theorem path_ok {f : Fl} {to : List Int} {bu : Int} (hto : StOk f to) : ∀ (k : Nat) (s : List Int), gap s to ≤ k → StOk f s → (bestV f to bu s).is = true →
    okPlan f bu s (pathV f to bu s) ∧ lastOf s (pathV f to bu s) = to ∧ ((pathV f to bu s).length : Int) = (bestV f to bu s).steps ∧ planTime f.times s (pathV f to bu s) = (bestV f to bu s).time ∧ (∀ x ∈ pathV f to bu s, StOk f x) := by
  intro k
  induction k with
  | zero =>
    intro s hk hs hi
    have hl : s.length = to.length := by rw [hs.len, hto.len]
    by_cases he : s = to
    · subst he
      rw [pathV_end]
      refine ⟨trivial, rfl, ?_, ?_, fun x hx => by simp at hx⟩ <;> rw [bestV_eq rfl, if_pos rfl] <;> rfl
    · have := next_gap hl he hi; omega
  | succ k ih =>
    intro s hk hs hi
    have hl : s.length = to.length := by rw [hs.len, hto.len]
    by_cases he : s = to
    · subst he
      rw [pathV_end]
      refine ⟨trivial, rfl, ?_, ?_, fun x hx => by simp at hx⟩ <;> rw [bestV_eq rfl, if_pos rfl] <;> rfl
    · obtain ⟨h1, h2, h3⟩ := bestV_next hl he hi
      have hg := next_gap hl he hi
      have hv := bestV_via hl he hi
      have hbt := enum_between h1
      have hsx := hs.btw hto hbt.1
      rw [pathV_step hl he hi]
      obtain ⟨k1, k2, k3, k4, k5⟩ := ih _ (by omega) hsx h3
      refine ⟨⟨hbt.2, h2, k1⟩, k2, ?_, ?_, fun x hx => ?_⟩
      · rw [hv]; simp only [Rs.via, List.length_cons]; rw [← k3]; omega
      · rw [hv]; simp only [Rs.via, planTime]; rw [k4]; omega
      · rcases List.mem_cons.1 hx with rfl | hx
        · exact hsx
        · exact k5 x hx

theorem aboveV_trans {f : Fl} {a b c : List Int} (ha : StOk f a) (hb : StOk f b) (hc : StOk f c) (h1 : aboveV b a = true) (h2 : aboveV c b = true) : aboveV c a = true := by
  have k1 := aboveV_le h1
  have k2 := aboveV_le h2
  exact aboveV_true rfl (fun j hj => by have := k1 j (by rw [hb.len, ← hc.len]; exact hj); have := k2 j hj; omega)
theorem okPlan_above {f : Fl} {bu : Int} : ∀ (L : List (List Int)) (p : List Int), StOk f p → (∀ x ∈ L, StOk f x) → okPlan f bu p L → aboveV (lastOf p L) p = true := by
  intro L
  induction L with
  | nil => intro p _ _ _; exact aboveV_refl p
  | cons s r ih =>
    intro p hp hL h
    have hs := hL s (by simp)
    have hr := fun x hx => hL x (List.mem_cons_of_mem s hx)
    have h1 := ih s hs hr h.2.2
    have hlast : StOk f (lastOf s r) := by
      have : ∀ (r : List (List Int)) (s : List Int), StOk f s → (∀ x ∈ r, StOk f x) → StOk f (lastOf s r) := by
        intro r
        induction r with
        | nil => intro s hs _; exact hs
        | cons t r ih2 => intro s _ hr; exact ih2 t (hr t (by simp)) (fun x hx => hr x (by simp [hx]))
      exact this r s hs hr
    exact aboveV_trans hp hs hlast (stepsB_true h.2.1).1 h1

theorem best_min {f : Fl} {to : List Int} {bu : Int} (hok : FlOk f) (hto : StOk f to) : ∀ (L : List (List Int)) (s : List Int), StOk f s → (∀ x ∈ L, StOk f x) → okPlan f bu s L → lastOf s L = to →
    (bestV f to bu s).is = true ∧ ((bestV f to bu s).steps < L.length ∨ ((bestV f to bu s).steps = L.length ∧ (bestV f to bu s).time ≤ planTime f.times s L)) := by
  intro L
  induction L with
  | nil =>
    intro s _ _ _ hl
    have : s = to := hl
    subst this
    rw [bestV_eq rfl, if_pos rfl]
    exact ⟨rfl, .inr ⟨rfl, Int.le_refl _⟩⟩
  | cons x r ih =>
    intro s hs hL h hlast
    have hx := hL x (by simp)
    have hr := fun y hy => hL y (List.mem_cons_of_mem x hy)
    obtain ⟨i1, i2⟩ := ih x hx hr h.2.2 hlast
    obtain ⟨ha, hne, hd⟩ := stepsB_true h.2.1
    have hax : aboveV to x = true := by have := okPlan_above r x hx hr h.2.2; rw [show lastOf x r = to from hlast] at this; exact this
    have hl : s.length = to.length := by rw [hs.len, hto.len]
    have hasto := aboveV_trans hs hx hto ha hax
    have hbt : Btw s to x := ⟨by rw [hx.len, hs.len], fun c hc => aboveV_le ha c (by rw [hx.len, ← hs.len]; exact hc), fun c hc => aboveV_le hax c (by omega)⟩
    have hst : s ≠ to := fun e => by
      subst e
      have h1 := aboveV_le ha
      have h2 := aboveV_le hax
      exact hne ((eqUpto_iff (by rw [hs.len, hx.len])).1 (fun j hj => by
        have a1 := h1 j (by rw [hx.len, ← hs.len]; exact hj)
        have a2 := h2 j hj
        omega))
    have hmem := enum_has h.1 hbt
    have hfm := (fold_min (T := f.times) (bu := bu) (s := s) (rec := bestV f to bu) (enum f s to s.length []) Rs.no).2 x hmem h.2.1 i1
    have he := bestV_eq (f := f) (bu := bu) hl
    rw [if_neg hst, hasto, if_pos rfl] at he
    rw [← he] at hfm
    refine ⟨hfm.1, ?_⟩
    have h2 := hfm.2
    unfold LexLe Rs.via at h2
    simp only [List.length_cons, planTime] at *
    omega
end
end Go.Proofs.Ytlilojpnhmfnaaa
