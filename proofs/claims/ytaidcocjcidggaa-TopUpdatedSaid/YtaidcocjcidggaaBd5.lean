/- Several texts of this claim in one file. (1) Contract: Plan, where its arguments are in order. (2) Contract: Plan. (3) Least: plain words, and what its closure finds in memory. (4) Least: a round of its closure's loop. (5) Least: the contract of its closure. (6) Contract: Least. (7) Plain law: a plan within a budget exists exactly if the least budget is not greater. No program in sight. (8) The example of the chapter: what Plan and Least return there; sameStates, Example and works. (9) The example: Example and works. (10) The look at the example: works returns true. (11) CheckPlan: plain words, and the list of a state and a plan. (12) Plain law: the planner's way is a plan, and no plan is shorter. No program in sight. (13) Contract: timesOf, at a plan that holds. (14) Contract: CheckPlan. (15) Plain law: what UpdateShortest asks of the planner's way and of any other plan. No program in sight. (16) Lists that a call collects: one more state, a copy of a state. Plain words for Interrupt and Back. (17) A list of numbers that a call collects. Nothing of the program is proved here. (18) A walk by lemmas: plain regions, one operation after the other, so that new blocks have names. Nothing of the program is proved here. (19) A walk by lemmas, within rounds and with marks too; regions whose values are known by a property. Nothing of the program is proved here. (20) Contracts: tags, the program's and the reference's. (21) Contracts: the reference's Tag. (22) Contracts: accept and Accept, the program's and the reference's. (23) Contracts: Works and the reference's. (24) Contract: the reference's CheckPlan. (25) Contracts: Back and the reference's. -/
import Derived.Test.YtaidcocjcidggaaBd4
import Derived.Maps.Own
import Derived.WalkLawsBesides
import Derived.Deep.Upon
import Derived.Deep.Slices
import Derived.Test.YtaidcocjcidggaaBd3
import Derived.Deep.LoopGhost
import Derived.Test.YtaidcocjcidggaaBd2
import Derived.IntWalk
import Derived.Deep.QuietTactic
import Derived.BigQuiet
namespace Go.Proofs.Ytaidcocjcidggaa
set_option linter.unusedSimpArgs false
set_option linter.unusedVariables false
section
open Go.RowKit

theorem plannedE_ok {f : Fl} {bu : Int} {a b : List Int} (h : plannedE f a b bu = 0) : beginE f bu [a, b] = 0 ∧ worksB f a = true ∧ worksB f b = true := by
  unfold plannedE at h
  split at h
  · rename_i hb
    split at h
    · rename_i hw
      simp at hw
      exact ⟨hb, hw.1, hw.2⟩
    · simp at h
  · rename_i hb; exact absurd h hb

theorem memo_new (w : World) (G : List Int → Value → Prop) : Memo (w.alloc (.map #[] 0)) w.heap.size G := ⟨#[], 0, World.alloc_heap_new _ _, fun e he => by simp at he, by simp⟩

/-- a new planner -/
theorem planner_new {w : World} {ta ca b : Option Addr} {tn tc cn cc n d : Nat} {f : Fl} {ys : List Int} {bu : Int} (hf : FlAt w ta tn ca cn f) (hy : Ints w b n ys) :
    PInv ⟨w.heap.size + 1, w.heap.size, ta, tn, tc, ca, cn, cc, b, d, n, f, ys, bu⟩ (fun _ => False) ((w.alloc (.map #[] 0)).alloc (.cells #[.slice ta tn tc, .slice ca cn cc, .slice b n d, .int .i64 bu, .map (some w.heap.size)] 79)) := by
  have g2 := (Gr.alloc w (.map #[] 0)).allocR (.cells #[.slice ta tn tc, .slice ca cn cc, .slice b n d, .int .i64 bu, .map (some w.heap.size)] 79)
  have g3 := Gr.alloc (w.alloc (.map #[] 0)) (.cells #[.slice ta tn tc, .slice ca cn cc, .slice b n d, .int .i64 bu, .map (some w.heap.size)] 79)
  have s1 : w.heap.size + 1 = (w.alloc (.map #[] 0)).heap.size := by simp
  have hc : ∀ j v, (#[Value.slice ta tn tc, .slice ca cn cc, .slice b n d, .int .i64 bu, .map (some w.heap.size)] : Array Value)[j]? = some v → ((w.alloc (.map #[] 0)).alloc (.cells #[.slice ta tn tc, .slice ca cn cc, .slice b n d, .int .i64 bu, .map (some w.heap.size)] 79)).cell? ⟨w.heap.size + 1, j, none⟩ = some v := fun j v h => by rw [s1]; exact cell_new h
  exact ⟨hc 0 _ rfl, hc 1 _ rfl, hc 2 _ rfl, hc 3 _ rfl, hc 4 _ rfl, hf.gr g2, hy.gr g2, (memo_new w _).mono (g3.below.block _ (by simp)) (fun _ _ h => h)⟩

theorem Try.field79_3 (w : World) (st ti : Int) (xa : Option Addr) (xk xc : Nat) (xb : Bool) : (Instr.field 81 (.agg #[.int .i64 st, .int .i64 ti, .slice xa xk xc, .bool xb]) 3).run Try.prog w = .ok (.bool xb) w := by kernel_rfl
theorem Try.field79_2 (w : World) (st ti : Int) (xa : Option Addr) (xk xc : Nat) (xb : Bool) : (Instr.field 81 (.agg #[.int .i64 st, .int .i64 ti, .slice xa xk xc, .bool xb]) 2).run Try.prog w = .ok (.slice xa xk xc) w := by kernel_rfl

theorem one_cell (w : World) (v : Value) (t : TypeId) : ∀ j u, [v][j]? = some u → (w.alloc (.cells #[v] t)).cell? ((⟨w.heap.size, 0, none⟩ : Addr).add j) = some u := by
  intro j u hj
  cases j with
  | zero => simp at hj; subst hj; exact cell_new rfl
  | succ j => simp at hj
theorem one_one (ad : Option Addr) (n c : Nat) : ∀ u ∈ [Value.slice ad n c], u.oneCell' = true := by
  intro u hu
  simp at hu
  subst hu
  rfl

def sliceLen : Value → Nat
  | .slice _ k _ => k
  | _ => 0

theorem PlanR.len {q : PP} (H : PHyp q) {W1 wr : World} {fr cur : List Int} {done : List (List Int)} {sv v : Value} (h : PlanR q W1 fr cur done sv v wr) (hfr : StOk q.f fr) : sliceLen v = done.length ∧ done.length + (pathV q.f q.to q.bu cur).length ≤ 18 := by
  constructor
  · obtain ⟨xs, h1, _⟩ := h.out
    rcases h1.2 with ⟨rfl, h0⟩ | ⟨g, cap, cc, rfl, _⟩
    · rw [h0]; rfl
    · rfl
  · have h1 := congrArg List.length h.tot
    rw [List.length_append] at h1
    rw [h1]
    have h2 := pathF_len q.f q.to q.bu (gap fr q.to) fr
    have h3 := gapTo_bd H.ok hfr H.sto q.to.length (by rw [H.sto.len]; exact Nat.le_refl _)
    have h4 := H.ok.n6
    have h5 := H.sto.len
    show (pathF q.f q.to q.bu (gap fr q.to) fr).length ≤ 18
    unfold gap at h2 ⊢
    omega

/-- best has been asked for the next state -/
theorem PlanR.call {q : PP} {W1 wr w' : World} {fr cur : List Int} {done : List (List Int)} {sv v : Value} (h : PlanR q W1 fr cur done sv v wr) (hI : PInv q (fun _ => False) W1) (g : Only (fun b => b = q.m) wr w') (hI' : PInv q (fun _ => False) w') : PlanR q W1 fr cur done sv v w' := by
  have hn := (h.inv hI).noc
  refine ⟨h.on.trans (g.mono' (fun i e => .inl e)), hI'.memo, h.out.only g hn, ?_, h.st, h.is, h.tot⟩
  obtain ⟨a, c, h1, h2, h3⟩ := h.sa
  exact ⟨a, c, h1, h2.only g hn, fun ad e => by
    rcases h3 ad e with h | h
    · exact .inl h
    · exact .inr (h.onlyN g hn)⟩

/-- one state more -/
theorem PlanR.push {q : PP} {W1 wr w' : World} {fr cur nx : List Int} {done : List (List Int)} {sv v v' : Value} {ov : List Value} {na ad : Addr} {nc c : Nat} (h : PlanR q W1 fr cur done sv v wr)
    (h1 : wr.ownsRow W1.heap.size 26 1 v done.length ov) (h2 : ∀ j, j < done.length → ∃ ad n c, ov[j]? = some (.slice (some ad) n c) ∧ Ints wr (some ad) n (done[j]?.getD []) ∧ Is3 wr ad.block)
    (hm : q.m < W1.heap.size) (hna : Ints wr (some na) q.n nx) (hna3 : Is3 wr na.block) (hx : Ints wr (some ad) q.n nx) (hx3 : Is3 wr ad.block)
    (hown : w'.ownsRow W1.heap.size 26 1 v' (done.length + 1) (ov ++ [.slice (some ad) q.n c])) (hgrow : wr.grownBy w' v.ownBlock) (hst : StOk q.f nx) (his : (bestV q.f q.to q.bu nx).is = true)
    (htot : (done ++ [nx]) ++ pathV q.f q.to q.bu nx = pathV q.f q.to q.bu fr) : PlanR q W1 fr nx (done ++ [nx]) (.slice (some na) q.n nc) v' w' := by
  have hO := only_grown hgrow
  have hb : ∀ b, v.ownBlock = some b → W1.heap.size ≤ b ∧ ¬ Is3 wr b := fun b e => own_block h1 e
  refine ⟨h.on.trans (hO.mono' (fun i e => .inr (hb i e).1)), ?_, OutR.push h1 h2 hx hx3 hown hgrow, ⟨some na, nc, rfl, ?_, fun ad' e => ?_⟩, hst, his, htot⟩
  · refine h.memo.mono (hO.block _ h.memo.lt (fun e => by have := (hb _ e).1; omega)) (fun s v hv => ⟨hv.1, ?_⟩)
    obtain ⟨a', k', c', k1, k2, k3⟩ := hv.2
    exact ⟨a', k', c', k1, k2.onlyAt hO (fun ad' e he => (hb _ he).2 (k3 ad' e).2), fun ad' e => ⟨(k3 ad' e).1, (k3 ad' e).2.only hO (fun he => (hb _ he).2 (k3 ad' e).2)⟩⟩
  · exact hna.onlyAt hO (fun ad' e he => by cases e; exact (hb _ he).2 hna3)
  · cases e
    exact .inr (hna3.only hO (fun he => (hb _ he).2 hna3))

set_option maxRecDepth 100000 in
set_option maxHeartbeats 4000000 in
theorem plan_good (ta ca a b : Option Addr) (tn tc cn cc n c d : Nat) (f : Fl) (xs ys : List Int) (bu : Int) (w : World) (hf : FlAt w ta tn ca cn f) (hx : Ints w a n xs) (hy : Ints w b n ys) (he : plannedE f xs ys bu = 0) :
    Calls Try.prog 17 #[.agg #[.slice ta tn tc, .slice ca cn cc], .slice a n c, .slice b n d, .int .i64 bu] w (PlanPost w (planV f xs ys bu) (planE f xs ys bu)) := by
  have h2 := pb w (.slice ta tn tc) (.slice ca cn cc) (.slice a n c) (.slice b n d)
  obtain ⟨w2, hw2⟩ : ∃ w2, (w.alloc (.cells #[.slice ta tn tc, .slice ca cn cc] 25)).alloc (.cells #[.slice a n c, .slice b n d] 26) = w2 := ⟨_, rfl⟩
  rw [hw2] at h2
  have hcon := Lib.hid (begin_any ta ca _ tn tc cn cc 2 2 f bu [xs, ys] w2 (hf.gr h2.gr) (rows2 (c := c) (d := d) h2.sz h2.d0 h2.d1 (hx.gr h2.gr) (hy.gr h2.gr)))
  obtain ⟨hb, hwx, hwy⟩ := plannedE_ok he
  obtain ⟨hok, hsx, hsy⟩ := beginE_ok hb
  have hbb : (beginE f bu [xs, ys] != 0) = false := by simp [hb]
  have HP1 : Hid ((bestV f ys bu xs).is = false → planE f xs ys bu = 112 ∧ planV f xs ys bu = []) := Lib.hid (fun h => by
    have : planE f xs ys bu = 112 := by unfold planE; rw [if_pos he, h]; rfl
    exact ⟨this, by unfold planV; rw [this]; rfl⟩)
  have HP2 : Hid ((bestV f ys bu xs).is = true → planE f xs ys bu = 0 ∧ planV f xs ys bu = pathV f ys bu xs) := Lib.hid (fun h => by
    have : planE f xs ys bu = 0 := by unfold planE; rw [if_pos he, h]; rfl
    exact ⟨this, by unfold planV; rw [this]; rfl⟩)
  have hnt : n = f.times.length := by rw [← hsx.len, hx.len]
  have H : ∀ bp m, PHyp ⟨bp, m, ta, tn, tc, ca, cn, cc, b, d, n, f, ys, bu⟩ := fun bp m => ⟨hok, hsy, hnt⟩
  have hn1 : 0 < n := by have := hok.n1; omega
  have hn6 : n ≤ 6 := by have := hok.n6; omega
  have HNT := Lib.hid hnt
  have HB := Lib.hid hb
  clear hb he hnt
  have c0 := h2.c0
  have c1 := h2.c1
  have hmm := @run_makeMap Try.prog
  have hfl3 := Try.field79_3
  have hfl2 := Try.field79_2
  go_enter Try.func17, Try.ntmps17
  go_wp2_with fail
  refine hcon.out.mono ?_
  rintro e w3 ⟨rfl, g3⟩
  clear hw2
  have G3 := h2.gr.trans g3
  have e0 := (g3.cell (lt_cell c0)).trans c0
  have e1 := (g3.cell (lt_cell c1)).trans c1
  have HW := works_any ta ca a tn tc cn cc n c f xs w3 (hf.gr G3) hok (hx.gr G3) hsx
  rw [hwx] at HW
  have HWh := Lib.hid HW
  clear HW
  go_wp2_with fail
  refine HWh.out.mono ?_
  rintro e w4 ⟨rfl, g4⟩
  have G4 := G3.trans g4
  have HW2 := works_any ta ca b tn tc cn cc n d f ys w4 (hf.gr G4) hok (hy.gr G4) hsy
  rw [hwy] at HW2
  have HW2h := Lib.hid HW2
  clear HW2
  have e0' := (g4.cell (lt_cell e0)).trans e0
  have e1' := (g4.cell (lt_cell e1)).trans e1
  go_wp2_with fail
  refine HW2h.out.mono ?_
  rintro e w5 ⟨rfl, g5⟩
  have G5 := G4.trans g5
  have e0'' := (g5.cell (lt_cell e0')).trans e0'
  have e1'' := (g5.cell (lt_cell e1')).trans e1'
  clear e0 e1 e0' e1' c0 c1 g3 g4 g5 G3 G4 HWh HW2h hcon h2
  have hI := planner_new (tc := tc) (cc := cc) (d := d) (bu := bu) (hf.gr G5) (hy.gr G5)
  have hs1 : ((w5.alloc (.map #[] 0)).alloc (.cells #[.slice ta tn tc, .slice ca cn cc, .slice b n d, .int .i64 bu, .map (some w5.heap.size)] 79)).heap.size = w5.heap.size + 2 := by simp
  have g7 := (Gr.alloc w5 (.map #[] 0)).allocR (.cells #[.slice ta tn tc, .slice ca cn cc, .slice b n d, .int .i64 bu, .map (some w5.heap.size)] 79)
  obtain ⟨W1, hW1⟩ : ∃ W1, (w5.alloc (.map #[] 0)).alloc (.cells #[.slice ta tn tc, .slice ca cn cc, .slice b n d, .int .i64 bu, .map (some w5.heap.size)] 79) = W1 := ⟨_, rfl⟩
  rw [hW1] at hI hs1 g7
  have hx1 := hx.gr (G5.trans g7)
  have HBE := Lib.hid (best_any _ (H (w5.heap.size + 1) w5.heap.size) (gap xs ys) (fun _ => False) xs W1 a c (Nat.le_refl _) hsx hI hx1 (fun _ h => h.elim))
  have HS1 := Lib.hid hs1
  have hmW : w5.heap.size < W1.heap.size := by omega
  clear hs1
  go_wp2_with fail
  refine HBE.out.mono ?_
  rintro e w8 ⟨v, rfl, ⟨ra, rk, rc, rfl, hri, hr3⟩, hI8, hO8⟩
  dsimp only
  have hGW : ∀ w', Only (fun b => b = w5.heap.size ∨ W1.heap.size ≤ b) W1 w' → Gr w w' := fun w' h => (((G5.trans g7).only _).trans h).gr (fun i hi e => by have := G5.size; have := g7.size; omega)
  clear hW1 e0'' e1'' HBE
  cases hbi : (bestV f ys bu xs).is with
  | false =>
    have hp := HP1.out hbi
    have HPP := Lib.hid hp
    clear hp HP1 HP2
    go_wp2_with fail
    go_ret2
    refine ⟨none, 0, 0, by rw [HPP.out.1]; rfl, by rw [HPP.out.2]; exact RowsAt.nil _, hGW _ (hO8.mono' (fun i e => .inl e)), Nat.le_refl _⟩
  | true =>
    have hp := HP2.out hbi
    have HPP := Lib.hid hp
    have hR0 : PlanR ⟨w5.heap.size + 1, w5.heap.size, ta, tn, tc, ca, cn, cc, b, d, n, f, ys, bu⟩ W1 xs xs [] (.slice a n c) (.slice none 0 0) w8 :=
      ⟨hO8.mono' (fun i e => .inl e), hI8.memo, OutR.nil _ _, ⟨a, c, rfl, hx1.only hO8 hI.noc, fun ad e => by
        cases e
        obtain ⟨_, e, hl, _⟩ := hx1.at hn1
        cases e
        exact .inl hl⟩, hsx, hbi, rfl⟩
    have HBI := Lib.hid hbi
    clear hp HP1 HP2 hbi hri hr3 hI8 hO8
    go_wp2_with fail
    go_loopw [12, 8] (fun sv v wr => ∃ cur done, PlanR ⟨w5.heap.size + 1, w5.heap.size, ta, tn, tc, ca, cn, cc, b, d, n, f, ys, bu⟩ W1 xs cur done sv v wr) (fun _ v _ => 18 - sliceLen v)
    case atStart => exact ⟨xs, [], hR0⟩
    case round =>
      obtain ⟨cur, done, hR⟩ := hrel
      obtain ⟨hl1, hl2⟩ := hR.len (H _ _) hsx
      have hIr := hR.inv hI
      have hyr : Ints wr b n ys := hIr.ito
      have hsa := hR.sa
      dsimp only at hsa
      obtain ⟨sa, sc, rfl, hsI, hsB⟩ := hsa
      have HLEN := Lib.hid hl1
      clear hl1
      have hcl : cur.length = ys.length := by rw [hsI.len, hyr.len]
      by_cases hcur : cur = ys
      · have hq1 := equal_any sa b n sc n d cur ys wr hsI hyr
        rw [decide_eq_true hcur] at hq1
        have HEQ := Lib.hid hq1
        clear hq1
        go_wp2_with fail
        refine HEQ.out.mono ?_
        rintro e w9 ⟨rfl, k, rfl⟩
        have hR9 := hR.gr (Gr.drewN wr k)
        obtain ⟨oa, oc, rfl, hrows, hcap⟩ := hR9.out.rows (by omega)
        have hdone : done = pathV f ys bu xs := by have := hR.tot; rw [hcur, pathV_end, List.append_nil] at this; exact this
        have HDN := Lib.hid hdone
        clear hdone
        go_wp2_with fail
        go_ret2
        refine ⟨oa, done.length, oc, by rw [HPP.out.1]; rfl, by rw [HPP.out.2, ← HDN.out]; exact hrows, hGW _ hR9.on, hcap⟩
      · have hq1 := equal_any sa b n sc n d cur ys wr hsI hyr
        rw [decide_eq_false hcur] at hq1
        have HEQ := Lib.hid hq1
        have HCUR := Lib.hid hcur
        clear hq1 hcur
        go_wp2_with fail
        refine HEQ.out.mono ?_
        rintro e w9 ⟨rfl, k, rfl⟩
        have hR9 := hR.gr (Gr.drewN wr k)
        have HBE := Lib.hid (best_any _ (H (w5.heap.size + 1) w5.heap.size) (gap cur ys) (fun _ => False) cur (wr.drewN k) sa sc (Nat.le_refl _) hR.st (hR9.inv hI) (hsI.gr (Gr.drewN wr k)) (fun _ h => h.elim))
        go_wp2_with fail
        refine HBE.out.mono ?_
        rintro e w10 ⟨v10, rfl, ⟨na, nk, nc, rfl, hni, hn3⟩, hI10, hO10⟩
        dsimp only at hni ⊢
        have hR10 := hR9.call hI hO10 hI10
        obtain ⟨hm1, hm2, hm3⟩ := bestV_next hcl HCUR.out hR.is
        have hbt := (enum_between hm1).1
        have hsn : StOk f (bestV f ys bu cur).nxt := hR.st.btw hsy hbt
        have hnk : nk = n := by rw [← hni.len, hbt.len, hsI.len]
        subst hnk
        obtain ⟨na, rfl, _, _⟩ := hni.at hn1
        have hna3 := (hn3 na rfl).2
        have htot : Hid ((done ++ [(bestV f ys bu cur).nxt]) ++ pathV f ys bu (bestV f ys bu cur).nxt = pathV f ys bu xs) := Lib.hid (by
          have := hR.tot
          dsimp only at this
          rw [pathV_step hcl HCUR.out hR.is] at this
          rw [← this]; simp)
        have hpl : 1 ≤ (pathV f ys bu cur).length := by rw [pathV_step hcl HCUR.out hR.is]; simp
        have HCL := Lib.hid (clone_any (some na) nk nc (bestV f ys bu cur).nxt w10 hni hn1 (by omega))
        have HM3 := Lib.hid hm3
        have HSN := Lib.hid hsn
        clear hR9 hR hIr hsI hyr hcl hI10 hO10 HBE HEQ hm1 hm2 hm3 hbt hsn hn3 hsB
        generalize (bestV f ys bu cur).nxt = nx at *
        go_wp2_with fail
        refine HCL.out.mono ?_
        rintro e w11 ⟨g, gc, rfl, hge, hgi, hg11, hg3⟩
        rw [hni.len] at hgi ⊢
        have hR11 := hR10.gr (hg11.allocR (.cells #[.slice (some ⟨g, 0, none⟩) nk gc] 26))
        have hna' := hni.gr (hg11.allocR (.cells #[.slice (some ⟨g, 0, none⟩) nk gc] 26))
        have hna3' := hna3.gr (hg11.allocR (.cells #[.slice (some ⟨g, 0, none⟩) nk gc] 26))
        have hgi' := hgi.gr (Gr.alloc w11 (.cells #[.slice (some ⟨g, 0, none⟩) nk gc] 26))
        have hg3' := hg3.gr (Gr.alloc w11 (.cells #[.slice (some ⟨g, 0, none⟩) nk gc] 26))
        obtain ⟨ov, hown, hrw⟩ := hR11.out
        have HOWN := Lib.hid hown
        have HRW := Lib.hid hrw
        have hszW := hR11.on.size
        obtain ⟨i0, hi, hz0, hz1, hz2⟩ := info_parts Try.info26
        have hc3 : done.length + 1 ≤ maxLen := by unfold maxLen; omega
        have hc4 : (done.length + 1) * 24 ≤ 140737488355328 := by omega
        clear hown hrw hR10 hni hna3 hgi hg3 HCL
        go_wp2_with (at_builtin; refine wpList_append_own _ rfl _ _ 22 rfl W1.heap.size 26 i0 (.slice none 0 0) 1 24 Try.underlying22 hi hz0 hz1 hz2 rfl (by decide) _ _ _ rfl HOWN.out ⟨w11.heap.size, 0, none⟩ 1 1 [.slice (some ⟨g, 0, none⟩) nk gc] rfl rfl (one_cell _ _ _) (one_one _ _ _) hc3 hc4 hszW ?_; intro v' w12 hown' hgrow _)
        have hR12 := hR11.push (nc := nc) HOWN.out HRW.out hmW hna' hna3' hgi' hg3' hown' hgrow HSN.out HM3.out htot.out
        have hl12 := Lib.hid (hR12.len (H _ _) hsx).1
        clear hown' hgrow HOWN HRW hR11 hna' hna3' hgi' hg3'
        go_wp2_with fail
        go_roundw
        case rel => exact ⟨nx, done ++ [nx], hR12⟩
        case measure =>
          have h1 := HLEN.out
          have h2 := hl12.out
          simp at h2
          simp
          omega
end
section
open Go.RowKit

theorem plan_any (ta ca a b : Option Addr) (tn tc cn cc n c m d : Nat) (f : Fl) (xs ys : List Int) (bu : Int) (w : World) (hf : FlAt w ta tn ca cn f) (hx : Ints w a n xs) (hy : Ints w b m ys) :
    Calls Try.prog 17 #[.agg #[.slice ta tn tc, .slice ca cn cc], .slice a n c, .slice b m d, .int .i64 bu] w (PlanPost w (planV f xs ys bu) (planE f xs ys bu)) := by
  by_cases he : plannedE f xs ys bu = 0
  · obtain ⟨hb, _, _⟩ := plannedE_ok he
    obtain ⟨_, hsx, hsy⟩ := beginE_ok hb
    obtain rfl : n = m := by rw [← hx.len, ← hy.len, hsx.len, hsy.len]
    exact plan_good ta ca a b tn tc cn cc n c d f xs ys bu w hf hx hy he
  · have h1 : planE f xs ys bu = plannedE f xs ys bu := by unfold planE; rw [if_neg he]
    have h2 : planV f xs ys bu = [] := by unfold planV; rw [h1, if_neg he]
    rw [h1, h2]
    exact plan_bad ta ca a b tn tc cn cc n c m d f xs ys bu w hf hx hy he
end
section
set_option linter.unusedVariables false
open Go.RowKit













theorem Try.zero3 (w : World) : (zeroValue 3).run Try.prog w = .ok (.int .i64 0) w := by kernel_rfl
end
section
open Go.RowKit
attribute [local go_sem] Oper.semAt_some
end
section
open Go.RowKit
attribute [local go_sem] Oper.semAt_some
end
section
open Go.RowKit




/-- the boxes of Least, and of its first call -/
structure LB (w w3 : World) (va vb vc vd : Value) : Prop where
  gr : Gr w w3
  c0 : w3.cell? ⟨w.heap.size, 0, none⟩ = some va
  c1 : w3.cell? ⟨w.heap.size, 1, none⟩ = some vb
  t0 : w3.cell? ⟨w.heap.size + 1, 0, none⟩ = some vd
  d0 : w3.cell? ⟨w.heap.size + 1 + 1, 0, none⟩ = some vc
  d1 : w3.cell? ⟨w.heap.size + 1 + 1, 1, none⟩ = some vd
  sz : w.heap.size + 1 + 1 < w3.heap.size
theorem lb (w : World) (va vb vc vd : Value) : LB w (((w.alloc (.cells #[va, vb] 25)).alloc (.cells #[vd] 26)).alloc (.cells #[vc, vd] 26)) va vb vc vd := by
  have h := three w #[va, vb] #[vd] #[vc, vd] 25 26 26
  exact ⟨h.gr, h.a 0 _ rfl, h.a 1 _ rfl, h.b 0 _ rfl, h.c 0 _ rfl, h.c 1 _ rfl, by rw [h.sz]; omega⟩
end
section
theorem enum_mem {f : Fl} {lo hi x : List Int} (hw : worksB f x = true) (hl : x.length = lo.length) : ∀ (k : Nat) (pre : List Int), pre.length + k = lo.length → (∀ c, c < pre.length → pre[c]?.getD 0 = x[c]?.getD 0) → (∀ c, pre.length ≤ c → c < lo.length → lo[c]?.getD 0 ≤ x[c]?.getD 0 ∧ x[c]?.getD 0 ≤ hi[c]?.getD 0) → x ∈ enum f lo hi k pre := by
  intro k
  induction k with
  | zero =>
    intro pre hp hpre _
    have : pre = x := (eqUpto_iff (by omega)).1 (fun j hj => hpre j hj)
    subst this
    simp [enum, hw]
  | succ k ih =>
    intro pre hp hpre hb
    have h1 := hb pre.length (Nat.le_refl _) (by omega)
    simp only [enum, List.mem_flatMap, List.mem_range]
    refine ⟨(x[pre.length]?.getD 0 - lo[pre.length]?.getD 0).toNat, by omega, ih _ (by simp; omega) (fun c hc => ?_) (fun c hc hlt => hb c (by simp at hc; omega) hlt)⟩
    by_cases e : c = pre.length
    · subst e; simp; omega
    · rw [List.getElem?_append_left (by simp at hc; omega)]; exact hpre c (by simp at hc; omega)
theorem enum_has {f : Fl} {lo hi x : List Int} (hw : worksB f x = true) (hb : Btw lo hi x) : x ∈ enum f lo hi lo.length [] :=
  enum_mem hw hb.len lo.length [] (by simp) (fun c hc => by simp at hc) (fun c _ hc => ⟨hb.ge c hc, hb.le c hc⟩)

theorem aboveV_refl (s : List Int) : aboveV s s = true := aboveV_true rfl (fun _ _ => Int.le_refl _)
end
section
open Go.RowKit
end
section
open Go.RowKit


theorem cell_at {w : World} {b j : Nat} {cs : Array Value} {t : TypeId} {fr : Nat × Nat} {v : Value} (h : w.heap[b]? = some (.cells cs t fr)) (hv : cs[j]? = some v) : w.cell? ⟨b, j, none⟩ = some v := by
  unfold World.cell?
  simp only [h]
  exact hv
end
section
open Go.RowKit
end
section
open Go.RowKit

/-- the first step of a plan that is none, and why -/
def cpLoop (f : Fl) (bu : Int) : List Int → List (List Int) → Int → Int × Int
  | _, [], _ => (0, 0)
  | p, s :: r, i => if worksB f s then (if stepsB f.times p s bu then cpLoop f bu s r (i + 1) else (i, 112)) else (i, 111)
def cpPre (f : Fl) (a : List Int) (L : List (List Int)) (bu : Int) : Int := if chkE f = 0 then (if 64 < L.length then 1 else beginE f bu (a :: L)) else chkE f
/-- what CheckPlan returns -/
def cpR (f : Fl) (a : List Int) (L : List (List Int)) (bu : Int) : Int × Int := if cpPre f a L bu = 0 then (if worksB f a then cpLoop f bu a L 0 else (-1, 111)) else (0, cpPre f a L bu)

theorem list_pick {α : Type} {P : Nat → α → Prop} (d : α) : ∀ n, (∀ j, j < n → ∃ x, P j x) → ∃ L : List α, L.length = n ∧ ∀ j, j < n → P j (L[j]?.getD d) := by
  intro n
  induction n with
  | zero => intro _; exact ⟨[], rfl, fun j hj => by omega⟩
  | succ n ih =>
    intro h
    obtain ⟨L, hl, hL⟩ := ih (fun j hj => h j (by omega))
    obtain ⟨x, hx⟩ := h n (by omega)
    refine ⟨L ++ [x], by simp [hl], fun j hj => ?_⟩
    by_cases e : j = n
    · subst e; rw [← hl]; simpa [hl] using hx
    · rw [List.getElem?_append_left (by omega)]; exact hL j (by omega)

/-- the cells of a list of states -/
theorem RowsAt.vals {w : World} {ad : Addr} {n : Nat} {L : List (List Int)} (h : RowsAt w (some ad) n L) : ∃ vs : List Value, vs.length = n ∧ ∀ j, j < n → ∃ a' n' c', vs[j]? = some (.slice a' n' c') ∧ w.cell? (ad.add j) = some (.slice a' n' c') ∧ Ints w a' n' (L[j]?.getD []) := by
  obtain ⟨vs, h1, h2⟩ := list_pick (P := fun j (v : Value) => ∃ a' n' c', v = .slice a' n' c' ∧ w.cell? (ad.add j) = some (.slice a' n' c') ∧ Ints w a' n' (L[j]?.getD [])) undef n (fun j hj => by
    obtain ⟨ad', a', n', c', e, _, hc, hi⟩ := h.at hj
    cases e
    exact ⟨_, a', n', c', rfl, hc, hi⟩)
  refine ⟨vs, h1, fun j hj => ?_⟩
  obtain ⟨a', n', c', e, hc, hi⟩ := h2 j hj
  have hlt : j < vs.length := by omega
  refine ⟨a', n', c', ?_, hc, hi⟩
  simp [hlt] at e
  simp [hlt, e]

theorem src_none (w : World) (pa : Option Addr) (pc : Nat) : Src Try.prog 1 22 (.slice pa 0 pc) 0 [] w := by
  refine ⟨.inl ⟨26, Try.underlying22⟩, fun w' => ?_, ?_, ?_, rfl, fun u hu => by simp at hu⟩
  · simp [Builtin.lenOf]
  · cases pa <;> simp [Builtin.firstCells, loadCells, loadCellsFrom]
  · cases pa <;> simp [Builtin.firstCells, loadCells, loadCellsFrom]

/-- append of a list of states to a new list of one state -/
theorem cp_append {o : Oper} {a : Act} {w3 W : World} {K : Act → World → Prop} {Q : Exit → Act → World → Prop} {s x : Operand} {sa pa : Option Addr} {n c pn pc g : Nat} {xs : List Int} {L : List (List Int)}
    (ho : o.op = .call { callee := .builtin .append, args := #[s, x], argTypes := #[22, 22] }) (hs : a.eval s = .slice (some ⟨g, 0, none⟩) 1 1) (hx : a.eval x = .slice pa pn pc)
    (hg : W.heap[g]? = some (.cells #[.slice sa n c] 26 (0, 0))) (hge : w3.heap.size ≤ g) (hgr : Gr w3 W) (hi : Ints w3 sa n xs) (hL : RowsAt w3 pa pn L) (h64 : pn ≤ 64)
    (h : ∀ ra rc w6, RowsAt w6 ra (pn + 1) (xs :: L) → Gr w3 w6 → K (a.put o.dst (.slice ra (pn + 1) rc)) w6) : o.wp Try.prog a W K Q := by
  obtain ⟨i0, hi0, hz0, hz1, hz2⟩ := info_parts Try.info26
  have hgl : g < W.heap.size := (Array.getElem?_eq_some_iff.1 hg).1
  by_cases hp : pn = 0
  · subst hp
    have hL0 : L = [] := List.eq_nil_of_length_eq_zero hL.len
    subst hL0
    have hsrc := src_none W pa pc
    rw [← hz1] at hsrc
    have hrun := run_append_nothing (P := Try.prog) W 22 22 o.type 26 i0 Try.underlying22 hi0 (some ⟨g, 0, none⟩) 1 1 (Nat.le_refl _) _ hsrc
    unfold Oper.wp execOp
    simp only [ho, resolve, invoke, builtin, Sem.run_bind, Sem.run_pure, Result.andThen_ok, List.map_toArray, List.map_cons, List.map_nil, hs, hx, hrun]
    exact h _ _ _ (rows1 (c := c) hgl (cell_at hg rfl) (hi.gr hgr)) hgr
  · obtain ⟨ad, a', n', c', rfl, _⟩ := hL.at (j := 0) (by omega)
    obtain ⟨vs, hv1, hv2⟩ := (hL.gr hgr).vals
    have hown : W.ownsRow w3.heap.size 26 1 (.slice (some ⟨g, 0, none⟩) 1 1) 1 [.slice sa n c] := ⟨rfl, .inr ⟨g, 1, #[.slice sa n c], rfl, hge, hg, Nat.le_refl _, by unfold maxLen; omega, rfl, rfl⟩⟩
    refine wp_append_own W s x 22 ho w3.heap.size 26 i0 (.slice none 0 0) 1 24 Try.underlying22 hi0 hz0 hz1 hz2 rfl (by decide) _ 1 _ hs hown ad pn pc vs hx (by rw [hv1, Nat.mul_one]) (fun j u hu => ?_) (fun u hu => ?_) (by unfold maxLen; omega) (by omega) hgr.size (fun v' w6 hown' hgrow _ => ?_)
    · have hj : j < pn := by have := (List.getElem?_eq_some_iff.1 hu).1; omega
      obtain ⟨a1, n1, c1, e, hc, _⟩ := hv2 j hj
      rw [e] at hu
      cases hu
      exact hc
    · obtain ⟨j, hj, e⟩ := List.mem_iff_getElem.1 hu
      obtain ⟨a1, n1, c1, e2, _, _⟩ := hv2 j (by omega)
      rw [List.getElem?_eq_getElem hj, e] at e2
      cases e2
      rfl
    · have hO := only_grown hgrow
      have hg6 : Gr w3 w6 := ((hgr.only (fun b => b = g)).trans (hO.mono' (fun i e => by simp [Value.ownBlock] at e; exact e.symm))).gr (fun i hi e => by omega)
      rcases hown'.2 with ⟨_, h0⟩ | ⟨g', cap, cur, rfl, _, hg', _⟩
      · omega
      · have e1 : 1 + pn = pn + 1 := by omega
        rw [e1] at hown' ⊢
        refine h _ _ _ ⟨by simp [hL.len], by omega, fun j hj => ?_⟩ hg6
        have hgl' := (Array.getElem?_eq_some_iff.1 hg').1
        cases j with
        | zero => exact ⟨⟨g', 0, none⟩, sa, n, c, rfl, hgl', hown'.cells (g := g') rfl 0 _ (by simp), hi.gr hg6⟩
        | succ j =>
          obtain ⟨a1, n1, c1, e, _, hi1⟩ := hv2 j (by omega)
          obtain ⟨_, a2, n2, c2, e3, _, hc2, hi2⟩ := hL.at (j := j) (by omega)
          cases e3
          obtain ⟨a3, n3, c3, e4, hc4, _⟩ := hv2 j (by omega)
          have hc2' := (hgr.cell (lt_cell hc2)).trans hc2
          rw [hc2'] at hc4
          cases hc4
          refine ⟨⟨g', 0, none⟩, a2, n2, c2, rfl, hgl', hown'.cells (g := g') rfl (j + 1) _ (by simp [e4]), ?_⟩
          simpa using hi2.gr hg6

structure R23 (w3 : World) (v : Value) (xs : List Int) (L : List (List Int)) (m : Nat) (done : Nat → Bool) (u : Nat → Value) (W : World) : Prop where
  gr : Gr w3 W
  one : done 5 = false → done 3 = true → ∃ g, u 3 = .slice (some ⟨g, 0, none⟩) 1 1 ∧ w3.heap.size ≤ g ∧ W.heap[g]? = some (.cells #[v] 26 (0, 0))
  all : done 5 = true → ∃ ra rc, u 5 = .slice ra m rc ∧ RowsAt W ra m (xs :: L)
theorem R23.start (w3 : World) (v : Value) (xs : List Int) (L : List (List Int)) (m : Nat) (u : Nat → Value) : R23 w3 v xs L m (fun _ => false) u w3.drew := ⟨Gr.drew _, (fun _ h => by cases h), (fun h => by cases h)⟩
theorem R23.quiet {w3 W : World} {v : Value} {xs : List Int} {L : List (List Int)} {m : Nat} {done : Nat → Bool} {u : Nat → Value} (h : R23 w3 v xs L m done u W) {i : Nat} (h3 : 3 ≠ i) (h5 : 5 ≠ i) {x : Value} : R23 w3 v xs L m (upd done i) (fun j => if j = i then x else u j) W := by
  refine ⟨h.gr, ?_, ?_⟩ <;> simp only [upd_ne h3, upd_ne h5, if_neg h3, if_neg h5]
  · exact h.one
  · exact h.all
theorem R23.made {w3 W : World} {v : Value} {xs : List Int} {L : List (List Int)} {m : Nat} {done : Nat → Bool} {u : Nat → Value} (h : R23 w3 v xs L m done u W) (h5 : done 5 = false) : R23 w3 v xs L m (upd done 3) (fun j => if j = 3 then .slice (some ⟨W.heap.size, 0, none⟩) 1 1 else u j) (W.alloc (.cells #[v] 26)) :=
  ⟨h.gr.allocR _, fun _ _ => ⟨W.heap.size, by simp, h.gr.size, World.alloc_heap_new _ _⟩, (fun h => by rw [upd_ne (by decide), h5] at h; cases h)⟩
theorem R23.app {w3 W w6 : World} {v : Value} {xs : List Int} {L : List (List Int)} {m : Nat} {done : Nat → Bool} {u : Nat → Value} (h : R23 w3 v xs L m done u W) {ra : Option Addr} {rc : Nat} (hr : RowsAt w6 ra m (xs :: L)) (g : Gr w3 w6) : R23 w3 v xs L m (upd done 5) (fun j => if j = 5 then .slice ra m rc else u j) w6 :=
  ⟨g, (fun h => by rw [upd_self] at h; cases h), fun _ => ⟨ra, rc, by simp, hr⟩⟩
theorem R23.call {w3 W w6 : World} {v : Value} {xs : List Int} {L : List (List Int)} {m : Nat} {done : Nat → Bool} {u : Nat → Value} (h : R23 w3 v xs L m done u W) (h5 : done 5 = true) {x : Value} (g : Gr W w6) : R23 w3 v xs L m (upd done 6) (fun j => if j = 6 then x else u j) w6 := by
  refine ⟨h.gr.trans g, (fun hh => by rw [upd_ne (by decide), h5] at hh; cases hh), fun _ => ?_⟩
  obtain ⟨ra, rc, e, hr⟩ := h.all h5
  exact ⟨ra, rc, by simpa using e, hr.gr g⟩
end
section
def okPlan (f : Fl) (bu : Int) : List Int → List (List Int) → Prop
  | _, [] => True
  | p, s :: r => worksB f s = true ∧ stepsB f.times p s bu = true ∧ okPlan f bu s r
def planTime (T : List (List Int)) : List Int → List (List Int) → Int
  | _, [] => 0
  | p, s :: r => dur T p s + planTime T s r
def lastOf : List Int → List (List Int) → List Int
  | p, [] => p
  | _, s :: r => lastOf s r

theorem cpLoop_ok {f : Fl} {bu : Int} : ∀ (L : List (List Int)) (p : List Int) (i : Int), ((cpLoop f bu p L i).2 = 0 ↔ okPlan f bu p L) := by
  intro L
  induction L with
  | nil => intro p i; simp [cpLoop, okPlan]
  | cons s r ih =>
    intro p i
    simp only [cpLoop, okPlan]
    cases hw : worksB f s with
    | false => simp
    | true =>
      cases hs : stepsB f.times p s bu with
      | false => simp
      | true => simp [ih]

theorem rsLess_iff (a b : Rs) : rsLess a b = true ↔ a.steps < b.steps ∨ (a.steps = b.steps ∧ a.time < b.time) := by
  unfold rsLess orI cmpI
  simp only [decide_eq_true_eq]
  by_cases h1 : a.steps < b.steps
  · simp [h1]
  · by_cases h2 : b.steps < a.steps
    · simp [h1, h2]; omega
    · have : a.steps = b.steps := by omega
      simp [this]
      by_cases h3 : a.time < b.time
      · simp [h3]
      · by_cases h4 : b.time < a.time <;> simp [h3, h4]

def LexLe (a b : Rs) : Prop := a.steps < b.steps ∨ (a.steps = b.steps ∧ a.time ≤ b.time)
theorem LexLe.trans {a b c : Rs} (h : LexLe a b) (k : LexLe b c) : LexLe a c := by unfold LexLe at *; omega
theorem LexLe.refl (a : Rs) : LexLe a a := .inr ⟨rfl, Int.le_refl _⟩

theorem step_min {T : List (List Int)} {bu : Int} {s x : List Int} {rec : List Int → Rs} (b : Rs) : (b.is = true → (bestStep T bu s rec b x).is = true ∧ LexLe (bestStep T bu s rec b x) b) ∧
    (stepsB T s x bu = true → (rec x).is = true → (bestStep T bu s rec b x).is = true ∧ LexLe (bestStep T bu s rec b x) ((rec x).via T s x)) := by
  unfold bestStep
  cases hs : stepsB T s x bu with
  | false => exact ⟨fun h => ⟨h, LexLe.refl _⟩, fun h => by cases h⟩
  | true =>
    cases hr : (rec x).is with
    | false => exact ⟨fun h => ⟨h, LexLe.refl _⟩, fun _ h => by cases h⟩
    | true =>
      simp only [if_true]
      cases hb : b.is with
      | false =>
        simp only [Bool.not_false, Bool.true_or, if_true]
        exact ⟨fun h => (by cases h), fun _ _ => ⟨rfl, LexLe.refl _⟩⟩
      | true =>
        simp only [Bool.not_true, Bool.false_or]
        cases hl : rsLess ((rec x).via T s x) b with
        | true =>
          have := (rsLess_iff _ _).1 hl
          simp only [if_true]
          exact ⟨fun _ => ⟨rfl, by unfold LexLe; omega⟩, fun _ _ => ⟨rfl, LexLe.refl _⟩⟩
        | false =>
          have : ¬ (((rec x).via T s x).steps < b.steps ∨ (((rec x).via T s x).steps = b.steps ∧ ((rec x).via T s x).time < b.time)) := fun h => by rw [(rsLess_iff _ _).2 h] at hl; cases hl
          simp only [Bool.false_eq_true, if_false]
          exact ⟨fun _ => ⟨hb, LexLe.refl _⟩, fun _ _ => ⟨hb, by unfold LexLe; omega⟩⟩

theorem fold_min {T : List (List Int)} {bu : Int} {s : List Int} {rec : List Int → Rs} : ∀ (l : List (List Int)) (b : Rs), (b.is = true → (l.foldl (bestStep T bu s rec) b).is = true ∧ LexLe (l.foldl (bestStep T bu s rec) b) b) ∧
    (∀ x ∈ l, stepsB T s x bu = true → (rec x).is = true → (l.foldl (bestStep T bu s rec) b).is = true ∧ LexLe (l.foldl (bestStep T bu s rec) b) ((rec x).via T s x)) := by
  intro l
  induction l with
  | nil => intro b; exact ⟨fun h => ⟨h, LexLe.refl _⟩, fun x hx => by simp at hx⟩
  | cons y l ih =>
    intro b
    have h1 := step_min (T := T) (bu := bu) (s := s) (x := y) (rec := rec) b
    have h2 := ih (bestStep T bu s rec b y)
    refine ⟨fun hb => ?_, fun x hx hs hr => ?_⟩
    · have := h1.1 hb
      have k := h2.1 this.1
      exact ⟨k.1, k.2.trans this.2⟩
    · rcases List.mem_cons.1 hx with rfl | hx
      · have := h1.2 hs hr
        have k := h2.1 this.1
        exact ⟨k.1, k.2.trans this.2⟩
      · exact h2.2 x hx hs hr

theorem fold_via {T : List (List Int)} {bu : Int} {s : List Int} {rec : List Int → Rs} : ∀ (l : List (List Int)) (b : Rs), l.foldl (bestStep T bu s rec) b = b ∨ ∃ x ∈ l, l.foldl (bestStep T bu s rec) b = (rec x).via T s x := by
  intro l
  induction l with
  | nil => intro b; exact .inl rfl
  | cons y l ih =>
    intro b
    rw [List.foldl_cons]
    rcases ih (bestStep T bu s rec b y) with h | ⟨x, hx, h⟩
    · rw [h]
      unfold bestStep
      split
      · split
        · split
          · exact .inr ⟨y, by simp, rfl⟩
          · exact .inl rfl
        · exact .inl rfl
      · exact .inl rfl
    · exact .inr ⟨x, by simp [hx], h⟩

/-- a rest that is found leads over its next state -/
theorem bestV_via {f : Fl} {to : List Int} {bu : Int} {s : List Int} (hl : s.length = to.length) (hne : s ≠ to) (h : (bestV f to bu s).is = true) :
    bestV f to bu s = (bestV f to bu (bestV f to bu s).nxt).via f.times s (bestV f to bu s).nxt := by
  have he := bestV_eq (f := f) (bu := bu) hl
  rw [if_neg hne] at he
  cases ha : aboveV to s with
  | false => rw [ha] at he; simp at he; rw [he] at h; simp [Rs.no] at h
  | true =>
    rw [ha, if_pos rfl] at he
    rcases fold_via (T := f.times) (bu := bu) (s := s) (rec := bestV f to bu) (enum f s to s.length []) Rs.no with h1 | ⟨x, _, h1⟩
    · rw [he, h1] at h; simp [Rs.no] at h
    · rw [← he] at h1
      have hn : (bestV f to bu s).nxt = x := by rw [h1]; rfl
      rw [hn]
      exact h1

theorem path_ok {f : Fl} {to : List Int} {bu : Int} (hto : StOk f to) : ∀ (k : Nat) (s : List Int), gap s to ≤ k → StOk f s → (bestV f to bu s).is = true →
    okPlan f bu s (pathV f to bu s) ∧ lastOf s (pathV f to bu s) = to ∧ ((pathV f to bu s).length : Int) = (bestV f to bu s).steps ∧ planTime f.times s (pathV f to bu s) = (bestV f to bu s).time ∧ (∀ x ∈ pathV f to bu s, StOk f x) := by
  intro k
  induction k with
  | zero =>
    intro s hk hs hi
    have hl : s.length = to.length := by rw [hs.len, hto.len]
    by_cases he : s = to
    · subst he
      rw [pathV_end]
      refine ⟨trivial, rfl, ?_, ?_, fun x hx => by simp at hx⟩ <;> rw [bestV_eq rfl, if_pos rfl] <;> rfl
    · have := next_gap hl he hi; omega
  | succ k ih =>
    intro s hk hs hi
    have hl : s.length = to.length := by rw [hs.len, hto.len]
    by_cases he : s = to
    · subst he
      rw [pathV_end]
      refine ⟨trivial, rfl, ?_, ?_, fun x hx => by simp at hx⟩ <;> rw [bestV_eq rfl, if_pos rfl] <;> rfl
    · obtain ⟨h1, h2, h3⟩ := bestV_next hl he hi
      have hg := next_gap hl he hi
      have hv := bestV_via hl he hi
      have hbt := enum_between h1
      have hsx := hs.btw hto hbt.1
      rw [pathV_step hl he hi]
      obtain ⟨k1, k2, k3, k4, k5⟩ := ih _ (by omega) hsx h3
      refine ⟨⟨hbt.2, h2, k1⟩, k2, ?_, ?_, fun x hx => ?_⟩
      · rw [hv]; simp only [Rs.via, List.length_cons]; rw [← k3]; omega
      · rw [hv]; simp only [Rs.via, planTime]; rw [k4]; omega
      · rcases List.mem_cons.1 hx with rfl | hx
        · exact hsx
        · exact k5 x hx

theorem aboveV_trans {f : Fl} {a b c : List Int} (ha : StOk f a) (hb : StOk f b) (hc : StOk f c) (h1 : aboveV b a = true) (h2 : aboveV c b = true) : aboveV c a = true := by
  have k1 := aboveV_le h1
  have k2 := aboveV_le h2
  exact aboveV_true rfl (fun j hj => by have := k1 j (by rw [hb.len, ← hc.len]; exact hj); have := k2 j hj; omega)
theorem okPlan_above {f : Fl} {bu : Int} : ∀ (L : List (List Int)) (p : List Int), StOk f p → (∀ x ∈ L, StOk f x) → okPlan f bu p L → aboveV (lastOf p L) p = true := by
  intro L
  induction L with
  | nil => intro p _ _ _; exact aboveV_refl p
  | cons s r ih =>
    intro p hp hL h
    have hs := hL s (by simp)
    have hr := fun x hx => hL x (List.mem_cons_of_mem s hx)
    have h1 := ih s hs hr h.2.2
    have hlast : StOk f (lastOf s r) := by
      have : ∀ (r : List (List Int)) (s : List Int), StOk f s → (∀ x ∈ r, StOk f x) → StOk f (lastOf s r) := by
        intro r
        induction r with
        | nil => intro s hs _; exact hs
        | cons t r ih2 => intro s _ hr; exact ih2 t (hr t (by simp)) (fun x hx => hr x (by simp [hx]))
      exact this r s hs hr
    exact aboveV_trans hp hs hlast (stepsB_true h.2.1).1 h1

theorem best_min {f : Fl} {to : List Int} {bu : Int} (hok : FlOk f) (hto : StOk f to) : ∀ (L : List (List Int)) (s : List Int), StOk f s → (∀ x ∈ L, StOk f x) → okPlan f bu s L → lastOf s L = to →
    (bestV f to bu s).is = true ∧ ((bestV f to bu s).steps < L.length ∨ ((bestV f to bu s).steps = L.length ∧ (bestV f to bu s).time ≤ planTime f.times s L)) := by
  intro L
  induction L with
  | nil =>
    intro s _ _ _ hl
    have : s = to := hl
    subst this
    rw [bestV_eq rfl, if_pos rfl]
    exact ⟨rfl, .inr ⟨rfl, Int.le_refl _⟩⟩
  | cons x r ih =>
    intro s hs hL h hlast
    have hx := hL x (by simp)
    have hr := fun y hy => hL y (List.mem_cons_of_mem x hy)
    obtain ⟨i1, i2⟩ := ih x hx hr h.2.2 hlast
    obtain ⟨ha, hne, hd⟩ := stepsB_true h.2.1
    have hax : aboveV to x = true := by have := okPlan_above r x hx hr h.2.2; rw [show lastOf x r = to from hlast] at this; exact this
    have hl : s.length = to.length := by rw [hs.len, hto.len]
    have hasto := aboveV_trans hs hx hto ha hax
    have hbt : Btw s to x := ⟨by rw [hx.len, hs.len], fun c hc => aboveV_le ha c (by rw [hx.len, ← hs.len]; exact hc), fun c hc => aboveV_le hax c (by omega)⟩
    have hst : s ≠ to := fun e => by
      subst e
      have h1 := aboveV_le ha
      have h2 := aboveV_le hax
      exact hne ((eqUpto_iff (by rw [hs.len, hx.len])).1 (fun j hj => by
        have a1 := h1 j (by rw [hx.len, ← hs.len]; exact hj)
        have a2 := h2 j hj
        omega))
    have hmem := enum_has h.1 hbt
    have hfm := (fold_min (T := f.times) (bu := bu) (s := s) (rec := bestV f to bu) (enum f s to s.length []) Rs.no).2 x hmem h.2.1 i1
    have he := bestV_eq (f := f) (bu := bu) hl
    rw [if_neg hst, hasto, if_pos rfl] at he
    rw [← he] at hfm
    refine ⟨hfm.1, ?_⟩
    have h2 := hfm.2
    unfold LexLe Rs.via at h2
    simp only [List.length_cons, planTime] at *
    omega
end
section
open Go.RowKit

def pAt (xs : List Int) (L : List (List Int)) (j : Nat) : List Int := (xs :: L)[j]?.getD []

structure PlOk (f : Fl) (bu : Int) (xs : List Int) (L : List (List Int)) : Prop where
  ok : FlOk f
  a : StOk f xs
  l : ∀ j, j < L.length → StOk f (L[j]?.getD [])
  pl : okPlan f bu xs L
  n64 : L.length ≤ 64
theorem PlOk.at {f : Fl} {bu : Int} {xs : List Int} {L : List (List Int)} (h : PlOk f bu xs L) {k : Nat} (hk : k ≤ L.length) : StOk f (pAt xs L k) := by
  cases k with
  | zero => simpa [pAt] using h.a
  | succ k => simpa [pAt] using h.l k (by omega)
end
section
open Go.RowKit

theorem beginE_all {f : Fl} {bu : Int} {a : List Int} {L : List (List Int)} (h : beginE f bu (a :: L) = 0) : FlOk f ∧ StOk f a ∧ ∀ j, j < L.length → StOk f (L[j]?.getD []) := by
  have hz : statesE f (a :: L) = 0 := by
    unfold beginE at h
    by_cases hz : statesE f (a :: L) = 0
    · exact hz
    · rw [if_neg hz] at h; exact absurd h hz
  obtain ⟨hchk, hsts⟩ := statesE_zero hz
  simp only [stsB, List.all_eq_true, List.mem_range] at hsts
  refine ⟨chkB_ok hchk, stB_ok (by simpa using hsts 0 (by simp)), fun j hj => stB_ok ?_⟩
  have := hsts (j + 1) (by simp; omega)
  simpa using this

set_option maxRecDepth 100000 in
set_option maxHeartbeats 4000000 in
theorem checkPlan_any (ta ca a pa : Option Addr) (tn tc cn cc n c pn pc : Nat) (f : Fl) (xs : List Int) (L : List (List Int)) (bu : Int) (w : World) (hf : FlAt w ta tn ca cn f) (hx : Ints w a n xs) (hL : RowsAt w pa pn L) :
    Calls Try.prog 23 #[.agg #[.slice ta tn tc, .slice ca cn cc], .slice a n c, .slice pa pn pc, .int .i64 bu] w fun e w' => e = .returned (.tuple #[.int .i64 (cpR f xs L bu).1, .int .i64 (cpR f xs L bu).2]) ∧ Gr w w' := by
  have g1 := Gr.alloc w (.cells #[.slice ta tn tc, .slice ca cn cc] 25)
  have c0 := cell_new (w := w) (t := 25) (cs := #[.slice ta tn tc, .slice ca cn cc]) (j := 0) rfl
  have c1 := cell_new (w := w) (t := 25) (cs := #[.slice ta tn tc, .slice ca cn cc]) (j := 1) rfl
  obtain ⟨w1, hw1⟩ : ∃ w1, w.alloc (.cells #[.slice ta tn tc, .slice ca cn cc] 25) = w1 := ⟨_, rfl⟩
  rw [hw1] at g1 c0 c1
  have HC := Lib.hid (check_any ta ca tn tc cn cc f w1 (hf.gr g1))
  have hpl := hL.lt
  by_cases he : chkE f = 0
  · have heb : (chkE f != 0) = false := by simp [he]
    by_cases h64 : 64 < pn
    · have HP : Hid (cpR f xs L bu = (0, 1)) := Lib.hid (by unfold cpR cpPre; rw [if_pos he, hL.len, if_pos h64]; rfl)
      clear he
      go_enter Try.func23, Try.ntmps23
      go_wp2_with fail
      refine HC.out.mono ?_
      rintro e w3 ⟨rfl, g3⟩
      go_wp2_with fail
      go_ret2
      exact ⟨by rw [HP.out]; rfl, g1.trans g3⟩
    have HPRE : Hid (cpPre f xs L bu = beginE f bu (xs :: L)) := Lib.hid (by unfold cpPre; rw [if_pos he, hL.len, if_neg h64])
    have HE := Lib.hid he
    clear he
    go_enter Try.func23, Try.ntmps23
    go_wp2_with fail
    refine HC.out.mono ?_
    rintro e w3 ⟨rfl, g3⟩
    have G3 := g1.trans g3
    have d0 := (g3.cell (lt_cell c0)).trans c0
    have d1 := (g3.cell (lt_cell c1)).trans c1
    clear hw1 c0 c1 HC g1 g3
    have c0 := d0
    have c1 := d1
    clear d0 d1
    have hf3 := hf.gr G3
    have hx3 := hx.gr G3
    have hL3 := hL.gr G3
    go_wp2_with fail
    refine (wpIn_wide (n := 0)).1 ?_
    refine region_inv (F := Fence.wide) (by kernel_rfl) (by rfl) (by decide) (fun _ => trivial)
      (fun done' u W' => Kn [some (.agg #[.slice ta tn tc, .slice ca cn cc]), some (.int .i64 bu), some (.slice a n c), none, some (.slice pa pn pc), none, some (.int .i64 (beginE f bu (xs :: L))), some (.int .i64 (beginE f bu (xs :: L)))] done' u ∧ R23 w3 (.slice a n c) xs L (pn + 1) done' u W')
      (fun u => ⟨Kn.start _ _, R23.start w3 (.slice a n c) xs L (pn + 1) u⟩) ⟨?_, ?_, ?_, ?_, ?_, ?_, ?_, ?_, trivial⟩ ?_
    · rintro u done' W' hd hanc hclo ⟨hk, hR⟩
      have c_c0 := (hR.gr.cell (lt_cell c0)).trans c0
      have c_c1 := (hR.gr.cell (lt_cell c1)).trans c1
      refine op_plain (ro := none) rfl (fun c h => by cases h) fun K hK => ?_
      simp only [fillL, List.setIfInBounds_toArray, List.set_cons_zero, List.set_cons_succ, Nat.zero_add, Nat.reduceAdd] at hK ⊢
      go_simp
      exact hK _ _ ⟨hk.new rfl, hR.quiet (by decide) (by decide)⟩
    · rintro u done' W' hd hanc hclo ⟨hk, hR⟩
      refine op_plain (ro := none) rfl (fun c h => by cases h) fun K hK => ?_
      simp only [fillL, List.setIfInBounds_toArray, List.set_cons_zero, List.set_cons_succ, Nat.zero_add, Nat.reduceAdd] at hK ⊢
      go_simp
      exact hK _ _ ⟨hk.new rfl, hR.quiet (by decide) (by decide)⟩
    · rintro u done' W' hd hanc hclo ⟨hk, hR⟩
      refine op_plain (ro := none) rfl (fun c h => by cases h) fun K hK => ?_
      simp only [fillL, List.setIfInBounds_toArray, List.set_cons_zero, List.set_cons_succ, Nat.zero_add, Nat.reduceAdd] at hK ⊢
      go_simp
      exact hK _ _ ⟨hk.new rfl, hR.quiet (by decide) (by decide)⟩
    · rintro u done' W' hd hanc hclo ⟨hk, hR⟩
      have e2 := hk.get 2 rfl (hanc 2 (mem_of (by kernel_rfl)))
      refine op_plain (ro := none) rfl (fun c h => by cases h) fun K hK => ?_
      simp only [fillL, List.setIfInBounds_toArray, List.set_cons_zero, List.set_cons_succ, Nat.zero_add, Nat.reduceAdd, e2] at hK ⊢
      go_simp
      exact hK _ _ ⟨hk.skip rfl, hR.made (not_done hclo hd 5 rfl (by kernel_rfl))⟩
    · rintro u done' W' hd hanc hclo ⟨hk, hR⟩
      refine op_plain (ro := none) rfl (fun c h => by cases h) fun K hK => ?_
      simp only [fillL, List.setIfInBounds_toArray, List.set_cons_zero, List.set_cons_succ, Nat.zero_add, Nat.reduceAdd] at hK ⊢
      go_simp
      exact hK _ _ ⟨hk.new rfl, hR.quiet (by decide) (by decide)⟩
    · rintro u done' W' hd hanc hclo ⟨hk, hR⟩
      have e4 := hk.get 4 rfl (hanc 4 (mem_of (by kernel_rfl)))
      have h3 := hanc 3 (mem_of (by kernel_rfl))
      obtain ⟨g0, e3, hge, hg0⟩ := hR.one hd h3
      refine op_plain (ro := none) rfl (fun c h => by cases h) fun K hK => ?_
      simp only [fillL, List.setIfInBounds_toArray, List.set_cons_zero, List.set_cons_succ, Nat.zero_add, Nat.reduceAdd, e3, e4] at hK ⊢
      refine cp_append (sa := a) (n := n) (c := c) (xs := xs) (L := L) (pa := pa) (pn := pn) (pc := pc) (g := g0) (w3 := w3) rfl rfl rfl hg0 hge hR.gr hx3 hL3 (by omega) ?_
      intro ra rc w6 hrows g6
      exact hK _ _ ⟨hk.skip rfl, hR.app hrows g6⟩
    · rintro u done' W' hd hanc hclo ⟨hk, hR⟩
      have e0 := hk.get 0 rfl (hanc 0 (mem_of (by kernel_rfl)))
      have e1 := hk.get 1 rfl (hanc 1 (mem_of (by kernel_rfl)))
      have h5 := hanc 5 (mem_of (by kernel_rfl))
      obtain ⟨ra, rc, e5, hrows⟩ := hR.all h5
      have HCON := Lib.hid (begin_any ta ca ra tn tc cn cc (pn + 1) rc f bu (xs :: L) W' (hf3.gr hR.gr) hrows)
      refine op_plain (ro := none) rfl (fun c h => by cases h) fun K hK => ?_
      simp only [fillL, List.setIfInBounds_toArray, List.set_cons_zero, List.set_cons_succ, Nat.zero_add, Nat.reduceAdd, e0, e1, e5] at hK ⊢
      go_simp
      refine HCON.out.mono ?_
      rintro e w6 ⟨rfl, g6⟩
      exact hK _ _ ⟨hk.new rfl, hR.call h5 g6⟩
    · rintro u done' W' hd hanc hclo ⟨hk, hR⟩
      have e6 := hk.get 6 rfl (hanc 6 (mem_of (by kernel_rfl)))
      refine op_plain (ro := none) rfl (fun c h => by cases h) fun K hK => ?_
      simp only [fillL, List.setIfInBounds_toArray, List.set_cons_zero, List.set_cons_succ, Nat.zero_add, Nat.reduceAdd, e6] at hK ⊢
      go_simp
      exact hK _ _ ⟨hk.new rfl, hR.quiet (by decide) (by decide)⟩
    · rintro u W' ⟨done', hdn, hk, hR⟩
      have e7 := hk.get 7 rfl (hdn 7 (by decide))
      have hg4 := hR.gr
      simp only [fillL, List.setIfInBounds_toArray, List.set_cons_zero, List.set_cons_succ, Nat.zero_add, Nat.reduceAdd, e7]
      clear hk hdn hR e7
      have G4 := G3.trans hg4
      have k0 := (hg4.cell (lt_cell c0)).trans c0
      have k1 := (hg4.cell (lt_cell c1)).trans c1
      clear c0 c1
      by_cases hbe : beginE f bu (xs :: L) = 0
      · have hbb : (beginE f bu (xs :: L) != 0) = false := by simp [hbe]
        have hok := (beginE_all hbe).1
        have hst := (beginE_all hbe).2.1
        have hall := (beginE_all hbe).2.2
        have hnt : n = f.times.length := by rw [← hst.len, hx.len]
        have HPR : Hid (cpR f xs L bu = if worksB f xs then cpLoop f bu xs L 0 else (-1, 111)) := Lib.hid (by unfold cpR; rw [HPRE.out, if_pos hbe])
        have HNT := Lib.hid hnt
        have HALL := Lib.hid hall
        have HBE := Lib.hid hbe
        clear hbe hnt hall
        have HW := Lib.hid (works_any ta ca a tn tc cn cc n c f xs W' (hf.gr G4) hok (hx.gr G4) hst)
        go_wp2_with fail
        refine HW.out.mono ?_
        rintro e w5 ⟨rfl, g5⟩
        have G5 := G4.trans g5
        have j0 := (g5.cell (lt_cell k0)).trans k0
        have j1 := (g5.cell (lt_cell k1)).trans k1
        clear k0 k1 HW
        cases hwx : worksB f xs with
        | false =>
          have HP : Hid (cpR f xs L bu = (-1, 111)) := Lib.hid (by rw [HPR.out, hwx]; rfl)
          go_wp2_with fail
          go_ret2
          exact ⟨by rw [HP.out]; rfl, G5⟩
        | true =>
          have HP : Hid (cpR f xs L bu = cpLoop f bu xs L 0) := Lib.hid (by rw [HPR.out, hwx]; rfl)
          clear HPR
          have hpn := hL.lt
          go_wp2_with fail
          go_loopw [1, 38] (fun s i wr => ∃ (k : Nat) (p : List Int) (qa : Option Addr) (qc : Nat), k ≤ pn ∧ i = .int .i64 k ∧ s = .slice qa n qc ∧ Gr w wr ∧ Ints wr qa n p ∧ StOk f p ∧ wr.cell? ⟨w.heap.size, 0, none⟩ = some (.slice ta tn tc) ∧ wr.cell? ⟨w.heap.size, 1, none⟩ = some (.slice ca cn cc) ∧ Hid (cpLoop f bu xs L 0 = cpLoop f bu p (L.drop k) k)) (fun _ i _ => pn - (intOf i).toNat)
          case atStart => exact ⟨0, xs, a, c, Nat.zero_le _, rfl, rfl, G5, hx.gr G5, hst, j0, j1, Lib.hid (by simp)⟩
          case round =>
            obtain ⟨k, p, qa, qc, hk, rfl, rfl, gr, hp, hps, m0, m1, HL⟩ := hrel
            by_cases hlt : k < pn
            · obtain ⟨pd, ya, yn, yc, rfl, hpb, hpc, hyi⟩ := (hL.gr gr).at hlt
              have hys : StOk f (L[k]?.getD []) := HALL.out k (by rw [hL.len]; exact hlt)
              have hyn : yn = n := by rw [← hyi.len, hys.len]; exact HNT.out.symm
              subst hyn
              have hdr : Hid (L.drop k = (L[k]?.getD []) :: L.drop (k + 1)) := Lib.hid (by
                have hl : k < L.length := by rw [hL.len]; exact hlt
                rw [List.drop_eq_getElem_cons hl]; simp [hl])
              generalize L[k]?.getD [] = y at *
              have HW := Lib.hid (works_any ta ca ya tn tc cn cc yn yc f y wr (hf.gr gr) hok hyi hys)
              go_wp2_with fail
              refine HW.out.mono ?_
              rintro e w6 ⟨rfl, g6⟩
              have G6 := gr.trans g6
              have q0 := (g6.cell (lt_cell m0)).trans m0
              have q1 := (g6.cell (lt_cell m1)).trans m1
              clear HW m0 m1
              cases hwy : worksB f y with
              | false =>
                have HF : Hid (cpR f xs L bu = ((k : Int), 111)) := Lib.hid (by rw [HP.out, HL.out, hdr.out]; simp [cpLoop, hwy])
                go_wp2_with fail
                go_ret2
                exact ⟨by rw [HF.out]; rfl, G6⟩
              | true =>
                have HS := Lib.hid (steps_any ta ca qa ya tn tc cn cc yn qc yc f p y bu w6 (hf.gr G6) hok (hp.gr g6) (hyi.gr g6) hps hys)
                go_wp2_with fail
                refine HS.out.mono ?_
                rintro e w7 ⟨rfl, g7⟩
                have G7 := G6.trans g7
                have q2 := (g7.cell (lt_cell q0)).trans q0
                have q3 := (g7.cell (lt_cell q1)).trans q1
                clear HS q0 q1
                cases hsy : stepsB f.times p y bu with
                | false =>
                  have HF : Hid (cpR f xs L bu = ((k : Int), 112)) := Lib.hid (by rw [HP.out, HL.out, hdr.out]; simp [cpLoop, hwy, hsy])
                  go_wp2_with fail
                  go_ret2
                  exact ⟨by rw [HF.out]; rfl, G7⟩
                | true =>
                  have HF : Hid (cpLoop f bu xs L 0 = cpLoop f bu y (L.drop (k + 1)) ((k + 1 : Nat) : Int)) := Lib.hid (by rw [HL.out, hdr.out]; simp [cpLoop, hwy, hsy])
                  have hy7 := (hyi.gr g6).gr g7
                  go_wp2_with fail
                  go_roundw
                  case rel => exact ⟨k + 1, y, ya, yc, by omega, by go_num, rfl, G7, hy7, hys, q2, q3, HF⟩
                  case measure => simp [intOf]; omega
            · obtain rfl : k = pn := by omega
              have HF : Hid (cpR f xs L bu = (0, 0)) := Lib.hid (by rw [HP.out, HL.out, List.drop_eq_nil_of_le (by rw [hL.len]; exact Nat.le_refl _)]; rfl)
              go_wp2_with fail
              go_ret2
              exact ⟨by rw [HF.out]; rfl, gr⟩
      · have hbb : (beginE f bu (xs :: L) != 0) = true := by simp [hbe]
        have HP : Hid (cpR f xs L bu = (0, beginE f bu (xs :: L))) := Lib.hid (by unfold cpR; rw [HPRE.out, if_neg hbe])
        clear hbe
        go_wp2_with fail
        go_ret2
        exact ⟨by rw [HP.out]; rfl, G4⟩
  · have heb : (chkE f != 0) = true := by simp [he]
    have HP : Hid (cpR f xs L bu = (0, chkE f)) := Lib.hid (by unfold cpR cpPre; rw [if_neg he, if_neg he])
    clear he
    go_enter Try.func23, Try.ntmps23
    go_wp2_with fail
    refine HC.out.mono ?_
    rintro e w3 ⟨rfl, g3⟩
    go_wp2_with fail
    go_ret2
    exact ⟨by rw [HP.out]; rfl, g1.trans g3⟩
end
section
theorem StOk.b {f : Fl} {s : List Int} (h : StOk f s) : stB f.times s = true := by
  refine stB_true h.len fun c hc => ?_
  have hc' : c < f.times.length := by rw [← h.len]; exact hc
  have := h.ver c hc'
  simp only [verB, Bool.and_eq_true, decide_eq_true_eq, Int.toNat_natCast]
  omega

theorem cpR_pl {f : Fl} {xs : List Int} {L : List (List Int)} {bu : Int} (h : (cpR f xs L bu).2 = 0) : PlOk f bu xs L := by
  unfold cpR at h
  by_cases hp : cpPre f xs L bu = 0
  · rw [if_pos hp] at h
    have hp2 := hp
    unfold cpPre at hp
    by_cases hc : chkE f = 0
    · rw [if_pos hc] at hp
      by_cases h64 : 64 < L.length
      · rw [if_pos h64] at hp; omega
      · rw [if_neg h64] at hp
        obtain ⟨h1, h2, h3⟩ := beginE_all hp
        cases hw : worksB f xs with
        | false => rw [hw] at h; simp at h
        | true =>
          rw [hw, if_pos rfl] at h
          exact ⟨h1, h2, h3, (cpLoop_ok L xs 0).1 h, by omega⟩
    · rw [if_neg hc] at hp; exact absurd hp hc
  · rw [if_neg hp] at h; exact absurd h hp

theorem path_len {f : Fl} {to : List Int} {bu : Int} (hto : StOk f to) : ∀ (k : Nat) (s : List Int), gap s to ≤ k → StOk f s → (bestV f to bu s).is = true → (pathV f to bu s).length ≤ k := by
  intro k
  induction k with
  | zero =>
    intro s hk hs hi
    have hl : s.length = to.length := by rw [hs.len, hto.len]
    by_cases he : s = to
    · subst he; rw [pathV_end]; simp
    · have := next_gap hl he hi; omega
  | succ k ih =>
    intro s hk hs hi
    have hl : s.length = to.length := by rw [hs.len, hto.len]
    by_cases he : s = to
    · subst he; rw [pathV_end]; simp
    · obtain ⟨h1, h2, h3⟩ := bestV_next hl he hi
      have hg := next_gap hl he hi
      rw [pathV_step hl he hi]
      have := ih _ (by omega) (hs.btw hto (enum_between h1).1) h3
      simp; omega

theorem pl_at {f : Fl} {L : List (List Int)} (h : ∀ x ∈ L, StOk f x) : ∀ j, j < L.length → StOk f (L[j]?.getD []) := fun j hj => by
  have : L[j]?.getD [] = L[j] := by simp [hj]
  rw [this]; exact h _ (List.getElem_mem hj)
theorem pl_mem {f : Fl} {L : List (List Int)} (h : ∀ j, j < L.length → StOk f (L[j]?.getD [])) : ∀ x ∈ L, StOk f x := fun x hx => by
  obtain ⟨j, hj, rfl⟩ := List.getElem_of_mem hx
  have := h j hj
  simpa [hj] using this

/-- the planner's way holds, arrives, and passes CheckPlan -/
theorem planV_holds {f : Fl} {xs ys : List Int} {bu : Int} (h : planE f xs ys bu = 0) : PlOk f bu xs (planV f xs ys bu) ∧ lastOf xs (planV f xs ys bu) = ys ∧ (cpR f xs (planV f xs ys bu) bu).2 = 0 ∧
    ((planV f xs ys bu).length : Int) = (bestV f ys bu xs).steps ∧ planTime f.times xs (planV f xs ys bu) = (bestV f ys bu xs).time := by
  have hv : planV f xs ys bu = pathV f ys bu xs := by unfold planV; rw [if_pos h]
  rw [hv]
  unfold planE at h
  by_cases hp : plannedE f xs ys bu = 0
  · rw [if_pos hp] at h
    have hi : (bestV f ys bu xs).is = true := by
      cases hi : (bestV f ys bu xs).is with
      | true => rfl
      | false => rw [hi] at h; simp at h
    obtain ⟨hb, hwx, _⟩ := plannedE_ok hp
    obtain ⟨hok, hsx, hsy⟩ := beginE_ok hb
    obtain ⟨k1, k2, k3, k4, k5⟩ := path_ok (f := f) (bu := bu) hsy (gap xs ys) xs (Nat.le_refl _) hsx hi
    have hlen := path_len (f := f) (bu := bu) hsy (gap xs ys) xs (Nat.le_refl _) hsx hi
    have hgap : gap xs ys ≤ 18 := by
      have := gapTo_bd hok hsx hsy f.times.length (Nat.le_refl _)
      have h6 := hok.n6
      unfold gap; rw [hsy.len]; omega
    have hPl : PlOk f bu xs (pathV f ys bu xs) := ⟨hok, hsx, pl_at k5, k1, by omega⟩
    refine ⟨hPl, k2, ?_, k3, k4⟩
    have hz : statesE f [xs, ys] = 0 := by
      unfold beginE at hb
      by_cases hz : statesE f [xs, ys] = 0
      · exact hz
      · rw [if_neg hz] at hb; exact absurd hb hz
    have hchk := (statesE_zero hz).1
    have hz2 : statesE f (xs :: pathV f ys bu xs) = 0 := statesE_ok hchk (fun j hj => by
      cases j with
      | zero => simpa using hsx.b
      | succ j => simpa using (hPl.l j (by simpa using hj)).b)
    have hb2 : beginE f bu (xs :: pathV f ys bu xs) = 0 := by
      unfold beginE at hb ⊢
      rw [if_pos hz] at hb
      rw [if_pos hz2]; exact hb
    have hpre : cpPre f xs (pathV f ys bu xs) bu = 0 := by
      have h0 : chkE f = 0 := by unfold chkE; rw [if_pos hchk]
      have h64 : ¬ 64 < (pathV f ys bu xs).length := by omega
      unfold cpPre; rw [if_pos h0, if_neg h64, hb2]
    unfold cpR
    rw [if_pos hpre, hwx, if_pos rfl]
    exact (cpLoop_ok _ _ _).2 k1
  · rw [if_neg hp] at h; exact absurd h hp
end
section
open Go.RowKit

/-- what a push leaves: states of the call's own -/
def KeepI (w w' : World) : Prop := ∀ (ad : Addr) (n : Nat) (y : List Int), Ints w (some ad) n y → Is3 w ad.block → Ints w' (some ad) n y ∧ Is3 w' ad.block

theorem one_cell_at {w : World} {g : Nat} {v : Value} {t : TypeId} (h : w.heap[g]? = some (.cells #[v] t)) : ∀ j u, [v][j]? = some u → w.cell? ((⟨g, 0, none⟩ : Addr).add j) = some u := by
  intro j u hj
  cases j with
  | zero => simp at hj; subst hj; exact cell_at h rfl
  | succ j => simp at hj

/-- append of one state to the list that a call collects -/
theorem wp_push {o : Oper} {a : Act} {w1 W : World} {K : Act → World → Prop} {Q : Exit → Act → World → Prop} {s x : Operand} {v : Value} {L : List (List Int)} {ad : Addr} {n c g : Nat} {y : List Int}
    (ho : o.op = .call { callee := .builtin .append, args := #[s, x], argTypes := #[22, 22] }) (hs : a.eval s = v) (hx : a.eval x = .slice (some ⟨g, 0, none⟩) 1 1)
    (hg : W.heap[g]? = some (.cells #[.slice (some ad) n c] 26)) (hO : OutR W w1.heap.size v L) (h1 : Gr w1 W) (hy : Ints W (some ad) n y) (h3 : Is3 W ad.block) (hl : L.length ≤ 1000000)
    (h : ∀ v' w', OutR w' w1.heap.size v' (L ++ [y]) → Gr w1 w' → KeepI W w' → K (a.put o.dst v') w') : o.wp Try.prog a W K Q := by
  obtain ⟨i0, hi, hz0, hz1, hz2⟩ := info_parts Try.info26
  obtain ⟨ov, hown, hrw⟩ := hO
  refine wp_append_own W s x 22 ho w1.heap.size 26 i0 (.slice none 0 0) 1 24 Try.underlying22 hi hz0 hz1 hz2 rfl (by decide) v L.length ov hs hown ⟨g, 0, none⟩ 1 1 [.slice (some ad) n c] hx rfl (one_cell_at hg) (one_one _ _ _) (by unfold maxLen; omega) (by omega) h1.size (fun v' w' hown' hgrow _ => ?_)
  have hO' := only_grown hgrow
  have hb : ∀ b, v.ownBlock = some b → w1.heap.size ≤ b ∧ ¬ Is3 W b := fun b e => own_block hown e
  refine h v' w' (OutR.push hown hrw hy h3 hown' hgrow) (((h1.only (fun b => w1.heap.size ≤ b)).trans (hO'.mono' (fun i e => (hb i e).1))).gr (fun i hi e => by omega)) (fun ad' n' y' hi' h3' => ?_)
  exact ⟨hi'.onlyAt hO' (fun ad2 e he => by cases e; exact (hb _ he).2 h3'), h3'.only hO' (fun he => (hb _ he).2 h3')⟩

theorem wpList_push {ops : Array Oper} {rest : List Oper} {o : Oper} {a : Act} {w1 W : World} {Q : Exit → Act → World → Prop} (hgd : o.guard = none) {s x : Operand} {v : Value} {L : List (List Int)} {ad : Addr} {n c g : Nat} {y : List Int}
    (ho : o.op = .call { callee := .builtin .append, args := #[s, x], argTypes := #[22, 22] }) (hs : a.eval s = v) (hx : a.eval x = .slice (some ⟨g, 0, none⟩) 1 1)
    (hg : W.heap[g]? = some (.cells #[.slice (some ad) n c] 26)) (hO : OutR W w1.heap.size v L) (h1 : Gr w1 W) (hy : Ints W (some ad) n y) (h3 : Is3 W ad.block) (hl : L.length ≤ 1000000)
    (h : ∀ v' w', OutR w' w1.heap.size v' (L ++ [y]) → Gr w1 w' → KeepI W w' → wpList Try.prog ops Q rest (a.put o.dst v') w') : wpList Try.prog ops Q (o :: rest) a W :=
  wpList_plain hgd fun K hK => wp_push ho hs hx hg hO h1 hy h3 hl (fun v' w' k1 k2 k3 => hK _ _ (h v' w' k1 k2 k3))



/-- a list of states from its j-th on -/
theorem RowsAt.tail1 {w : World} {ad : Addr} {n : Nat} {s : List Int} {L : List (List Int)} (h : RowsAt w (some ad) (n + 1) (s :: L)) : RowsAt w (some (ad.add 1)) n L := by
  refine ⟨by have := h.len; simpa using this, by have := h.lt; omega, fun j hj => ?_⟩
  obtain ⟨ad', a', n', c', e, hb, hc, hi⟩ := h.at (j := j + 1) (by omega)
  cases e
  refine ⟨ad.add 1, a', n', c', rfl, by rw [add_block]; exact hb, ?_, by simpa using hi⟩
  rw [Go.Deep.add_add, Nat.add_comm]; exact hc
theorem RowsAt.take {w : World} {a : Option Addr} {n : Nat} {L : List (List Int)} (h : RowsAt w a n L) {d : Nat} (hd : d ≤ n) : RowsAt w a d (L.take d) := by
  refine ⟨by have := h.len; simp; omega, by have := h.lt; omega, fun j hj => ?_⟩
  obtain ⟨ad', a', n', c', e, hb, hc, hi⟩ := h.at (j := j) (by omega)
  exact ⟨ad', a', n', c', e, hb, hc, by rw [List.getElem?_take_of_lt hj]; exact hi⟩

/-- the states of an update whose parked times are interrupted -/
def intr (T : List (List Int)) : List Int → List (List Int) → List Int → List (List Int)
  | _, _, [] => []
  | cur, [], _ :: r => cur :: intr T cur [] r
  | cur, s :: p, n :: r => if dur T cur s ≤ n then s :: intr T s p r else cur :: intr T cur (s :: p) r
def intE (f : Fl) (xs : List Int) (L : List (List Int)) (bu : Int) (ms : List Int) : Int := if (cpR f xs L bu).2 = 0 then (if 64 < ms.length then 1 else if ms.any (fun n => decide (n < 0)) then 1 else 0) else (cpR f xs L bu).2
def intV (f : Fl) (xs : List Int) (L : List (List Int)) (bu : Int) (ms : List Int) : List (List Int) := if intE f xs L bu ms = 0 then intr f.times xs L ms else []

/-- the first d states of a way, from the last one on -/
def bk (xs : List Int) (L : List (List Int)) : Nat → List (List Int)
  | 0 => []
  | d + 1 => pAt xs L d :: bk xs L d
def backE (f : Fl) (xs : List Int) (L : List (List Int)) (bu d : Int) : Int := if (cpR f xs L bu).2 = 0 then (if withinB d 0 L.length then 0 else 1) else (cpR f xs L bu).2
def backV (f : Fl) (xs : List Int) (L : List (List Int)) (bu d : Int) : List (List Int) := if backE f xs L bu d = 0 then bk xs L d.toNat else []

theorem PlOk.tail {f : Fl} {bu : Int} {xs s : List Int} {L : List (List Int)} (h : PlOk f bu xs (s :: L)) : PlOk f bu s L :=
  ⟨h.ok, by simpa using h.l 0 (by simp), fun j hj => by simpa using h.l (j + 1) (by simp; omega), h.pl.2.2, by have := h.n64; simp at this; omega⟩
theorem PlOk.step {f : Fl} {bu : Int} {xs s : List Int} {L : List (List Int)} (h : PlOk f bu xs (s :: L)) : stepsB f.times xs s bu = true ∧ StOk f s := ⟨h.pl.2.1, by simpa using h.l 0 (by simp)⟩

/-- what the list of a call is, where it returns -/
theorem OutR.post {w wr : World} {B : Nat} {v : Value} {L : List (List Int)} {code : Int} (h : OutR wr B v L) (g : Gr w wr) (hl : L.length < 1152921504606846976) : PlanPost w L code (.returned (.tuple #[v, .int .i64 code])) wr := by
  obtain ⟨a, c, rfl, hr, hc⟩ := h.rows hl
  exact ⟨a, _, c, rfl, hr, g, hc⟩
end
section
open Go.RowKit
end
section
open Go.RowKit
namespace X
variable {P : Program} {ops : Array Oper} {Q : Exit → Act → World → Prop} {o : Oper} {rest : List Oper} {A : Act} {W W' : World} {n : Nat} {L : List (Nat × Value)} {D : List Deferred}

def putS (L : List (Nat × Value)) : Option Nat → Value → List (Nat × Value)
  | some d, v => (d, v) :: L.filter (fun p => !(p.1 == d))
  | none, _ => L
def delS (L : List (Nat × Value)) : Option Nat → List (Nat × Value)
  | some d => L.filter (fun p => !(p.1 == d))
  | none => L
theorem _root_.Go.Proofs.Ytaidcocjcidggaa.Fr.put (h : Fr A n L D) {o : Option Nat} {v : Value} (hd : (match o with | some d => decide (d < n) | none => true) = true) : Fr (A.put o v) n (putS L o v) D := by
  cases o with
  | none => exact h
  | some d =>
    simp only [decide_eq_true_eq] at hd
    refine ⟨by simp [Act.put, h.sz], h.df, fun s x hm => ?_⟩
    simp only [putS, List.mem_cons, Prod.mk.injEq, List.mem_filter] at hm
    rcases hm with ⟨rfl, rfl⟩ | ⟨h1, h2⟩
    · simp only [Act.put]
      rw [Array.getElem?_setIfInBounds_self_of_lt (by rw [h.sz]; exact hd)]
    · have hne : d ≠ s := by intro e; subst e; simp at h2
      simp only [Act.put]
      rw [Array.getElem?_setIfInBounds_ne hne]
      exact h.get s x h1
theorem _root_.Go.Proofs.Ytaidcocjcidggaa.Fr.del (h : Fr A n L D) {o : Option Nat} {v : Value} (hd : (match o with | some d => decide (d < n) | none => true) = true) : Fr (A.put o v) n (delS L o) D := by
  cases o with
  | none => exact h
  | some d =>
    have := h.put (o := some d) (v := v) hd
    exact ⟨this.sz, this.df, fun s x hm => this.get s x (List.mem_cons_of_mem _ hm)⟩
theorem _root_.Go.Proofs.Ytaidcocjcidggaa.Fr.yl (h : Fr A n L D) {j d : Nat} {b : Bool} (hj : ((ops[j]?).bind fun o : Oper => o.dst) = some d) (hv : lookS L d = some (.bool b)) : yielded ops A.tmps j = some b := by
  cases hoj : ops[j]? with
  | none => rw [hoj] at hj; simp at hj
  | some oj =>
    rw [hoj] at hj
    have hdj : oj.dst = some d := by simpa using hj
    simp [yielded, hoj, hdj, h.look hv]


theorem bs {ρ : Operand → Value} {t : TypeId} {m : Nat} {xs : Array (Nat × Operand)} {vs : List (Nat × Value)} {v : Value} (ho : o.op = .buildSlice t m xs) (hx : xs.toList.map (fun p => (p.1, ρ p.2)) = vs) (hr : (Instr.buildSlice t m vs.toArray).run P W = .ok v W') : (execOp ρ o).run P W = .ok (.value v) W' := by
  unfold execOp; rw [ho]
  have : (xs.map fun (i, x) => (i, ρ x)) = vs.toArray := by
    cases xs with
    | mk l => subst hx; simp
  simp only [this]; exact run_v hr
theorem kc {ρ : Operand → Value} {x : Operand} (v : Value) (h : ρ x = v) : ρ x = v := h
theorem b1 {ρ : Operand → Value} {x : Operand} {v : Value} (h : ρ x = v) : [(0, x)].map (fun p : Nat × Operand => (p.1, ρ p.2)) = [(0, v)] := by simp [h]
theorem b2 {ρ : Operand → Value} {x y : Operand} {v z : Value} (h : ρ x = v) (k : ρ y = z) : [(0, x), (1, y)].map (fun p : Nat × Operand => (p.1, ρ p.2)) = [(0, v), (1, z)] := by simp [h, k]
end X
end
section
open Go.RowKit
namespace Y
variable {ro : Option Nat} {P : Program} {ops : Array Oper} {Q : Exit → Act → World → Prop} {o : Oper} {rest : List Oper} {A : Act} {W W' : World} {n : Nat} {L : List (Nat × Value)} {D : List Deferred}

/-- no fence but for the round -/
def FW (ro : Option Nat) : Fence := { Fence.wide with round := ro }
theorem seq {x y : Code} (h : x.wpIn (FW ro) 0 P (Exit.then (y.wpIn (FW ro) 0 P Q) Q) A W) : (Code.seq x y).wpIn (FW ro) 0 P Q A W := wpIn_seq h
theorem skip (h : Q .normal A W) : Code.skip.wpIn (FW ro) 0 P Q A W := wpIn_skip h
theorem exit {id : Nat} (h : Q (.exit id) A W) : (Code.exit id).wpIn (FW ro) 0 P Q A W := wpIn_exit h
theorem ret (h : Q .ret A W) : Code.ret.wpIn (FW ro) 0 P Q A W := wpIn_ret h
theorem block {id : Nat} {c : Code} (h : c.wpIn (FW ro) 0 P (Exit.inBlock id Q) A W) : (Code.block id c).wpIn (FW ro) 0 P Q A W := wpIn_block h
theorem condT {c : Operand} {x y : Code} (hc : A.eval c = .bool true) (h : x.wpIn (FW ro) 0 P Q A W) : (Code.cond c x y).wpIn (FW ro) 0 P Q A W := wpIn_cond_true hc h
theorem condF {c : Operand} {x y : Code} (hc : A.eval c = .bool false) (h : y.wpIn (FW ro) 0 P Q A W) : (Code.cond c x y).wpIn (FW ro) 0 P Q A W := wpIn_cond_false hc h
theorem loop {c : Code} (I : Nat → Act → World → Prop) (n₀ : Nat) (h₀ : I n₀ A W)
    (round : ∀ n a w, I n a w → c.wpIn (FW ro) 0 P (Exit.then (fun a' w' => ∃ n', n' < n ∧ I n' a' w') Q) a w) : (Code.loop c).wpIn (FW ro) 0 P Q A W := by
  refine wpIn_loop (fun a w => ∃ n, I n a w) (fun a w => leastOf (fun n => I n a w)) ⟨n₀, h₀⟩ ?_
  intro a w hI
  refine wpIn_mono (round _ a w (leastOf_spec hI).1) ?_
  intro e a' w' hq
  cases e with
  | normal =>
    obtain ⟨n', hlt, hI'⟩ := hq
    exact show (∃ n, I n a' w') ∧ leastOf (fun n => I n a' w') < leastOf (fun n => I n a w) from ⟨⟨n', hI'⟩, Nat.lt_of_le_of_lt ((leastOf_spec ⟨n', hI'⟩).2 n' hI') hlt⟩
  | exit id => exact hq
  | goto l => exact hq
  | ret => exact hq
  | panic ch => exact hq
  | outgrown => exact hq
theorem lit {id : Nat} {l : List Oper} (hd : (l.all fun o => match o.op with | .defer _ => false | _ => true) = true) (h : wpL P l.toArray Q l A W) : (Code.region id l.toArray false).wpIn (FW ro) 0 P Q A W := wpIn_region_L hd h
theorem nil (h : Q .normal A W) : wpL P ops Q [] A W := h

/-- an operation that gives a value -/
theorem pval {v : Value} (F : Fr A n L D) (hw : Region.wanted o (yielded ops A.tmps) = true) (hd : (match o.dst with | some d => decide (d < n) | none => true) = true) (hrun : (execOp A.eval o).run P W = .ok (.value v) W') (h : ∀ A', Fr A' n (X.putS L o.dst v) D → wpL P ops Q rest A' W') : wpL P ops Q (o :: rest) A W := by
  refine wpL_step fun K hK => ?_
  rw [if_pos hw]
  unfold Oper.wp
  rw [hrun]
  exact hK _ _ (h _ (F.put hd))
/-- an operation that gives none -/
theorem punit (F : Fr A n L D) (hw : Region.wanted o (yielded ops A.tmps) = true) (hd : (match o.dst with | some d => decide (d < n) | none => true) = true) (hrun : (execOp A.eval o).run P W = .ok .skip W') (h : ∀ A', Fr A' n (X.delS L o.dst) D → wpL P ops Q rest A' W') : wpL P ops Q (o :: rest) A W := by
  refine wpL_step fun K hK => ?_
  rw [if_pos hw]
  unfold Oper.wp
  rw [hrun]
  exact hK _ _ (h _ (F.del hd))
theorem pskip (F : Fr A n L D) (hw : Region.wanted o (yielded ops A.tmps) = false) (hd : (match o.dst with | some d => decide (d < n) | none => true) = true) (h : ∀ A', Fr A' n (X.putS L o.dst undef) D → wpL P ops Q rest A' W) : wpL P ops Q (o :: rest) A W := by
  refine wpL_step fun K hK => ?_
  rw [if_neg (by rw [hw]; decide)]
  exact hK _ _ (h _ (F.put hd))
/-- the guard has not been carried out itself -/
theorem w3 {y : Nat → Option Bool} {j : Nat} {b : Bool} (hg : o.guard = some (j, b)) (hy : y j = none) : Region.wanted o y = false := by simp [Region.wanted, hg, hy]
theorem yn_of {ops : Array Oper} {tmps : Array Value} {j d : Nat} (hj : ((ops[j]?).bind fun o : Oper => o.dst) = some d) (h : tmps.getD d undef = undef) : yielded ops tmps j = none := by
  cases hoj : ops[j]? with
  | none => rw [hoj] at hj; simp at hj
  | some oj =>
    rw [hoj] at hj
    have hdj : oj.dst = some d := by simpa using hj
    cases hd : tmps[d]? with
    | none => simp [yielded, hoj, hdj, hd]
    | some v =>
      have : v = undef := by simpa [hd] using h
      subst this
      simp [yielded, hoj, hdj, hd, undef]
theorem _root_.Go.Proofs.Ytaidcocjcidggaa.Fr.yn (F : Fr A n L D) {j d : Nat} (hj : ((ops[j]?).bind fun o : Oper => o.dst) = some d) (hv : lookS L d = some undef) : yielded ops A.tmps j = none := yn_of hj (F.ev d undef hv)
theorem pcall {f : FuncId} {args : Array Value} {T : Ending → World → Prop} (F : Fr A n L D) (hw : Region.wanted o (yielded ops A.tmps) = true) (hd : (match o.dst with | some d => decide (d < n) | none => true) = true) (hrun : (execOp A.eval o).run P W = .ok (.enter f args) W) (hc : Calls P f args W T)
    (h : ∀ e W', T e W' → ∃ v, e = .returned v ∧ ∀ A', Fr A' n (X.putS L o.dst v) D → wpL P ops Q rest A' W') : wpL P ops Q (o :: rest) A W := by
  refine wpL_step fun K hK => ?_
  rw [if_pos hw]
  unfold Oper.wp
  rw [hrun]
  refine hc.mono fun e W' hT => ?_
  obtain ⟨v, rfl, h2⟩ := h e W' hT
  exact hK _ _ (h2 _ (F.put hd))

/-- a property of a value that lasts while memory only grows -/
structure MP where
  p : Value → World → Prop
  up : ∀ v W W', p v W → Gr W W' → p v W'
/-- what is held in a region: memory has only grown; some operations' values have their properties -/
def RP (w : World) (Pr : List (Nat × MP)) : (Nat → Bool) → (Nat → Value) → World → Prop := fun done u W => Gr w W ∧ ∀ i q, Pr.lookup i = some q → done i = true → q.p (u i) W
section
variable {w : World} {Pr : List (Nat × MP)} {done : Nat → Bool} {u : Nat → Value}
theorem RP.step {i : Nat} {v : Value} (h : RP w Pr done u W) (g : Gr W W') (hi : Pr.lookup i = none) : RP w Pr (upd done i) (fun j => if j = i then v else u j) W' := by
  refine ⟨h.1.trans g, fun j q hj hd => ?_⟩
  by_cases e : j = i
  · subst e; rw [hi] at hj; cases hj
  · rw [upd_ne e] at hd
    simp only [if_neg e]
    exact q.up _ _ _ (h.2 j q hj hd) g
theorem RP.new {i : Nat} {v : Value} {q : MP} (h : RP w Pr done u W) (g : Gr W W') (hi : Pr.lookup i = some q) (hq : q.p v W') : RP w Pr (upd done i) (fun j => if j = i then v else u j) W' := by
  refine ⟨h.1.trans g, fun j q' hj hd => ?_⟩
  by_cases e : j = i
  · subst e; rw [hi] at hj; injection hj with hj; subst hj; simpa using hq
  · rw [upd_ne e] at hd
    simp only [if_neg e]
    exact q'.up _ _ _ (h.2 j q' hj hd) g
theorem RP.skip {i : Nat} (h : RP w Pr done u W) (hi : Pr.lookup i = none) : RP w Pr (upd done i) (fun j => if j = i then undef else u j) W := h.step (Gr.refl _) hi
theorem RP.get {i : Nat} (h : RP w Pr done u W) (q : MP) (hi : Pr.lookup i = some q) (hd : done i = true) : q.p (u i) W := h.2 i q hi hd
end
theorem region {id : Nat} {l : List Oper} {d : Bool} {w : World} {a : Act} (F : Fr a n L D) (vs : List (Option Value)) (Pr : List (Nat × MP)) (hm : P.follows .mixedOrders = true) (ok : RegOk l vs n)
    (hstep : AllIdx (StepX P l vs L Q (RP w Pr)) l 0)
    (hfin : ∀ (A : Act) (u : Nat → Value) (W : World), A.tmps.size = n → A.defers = D → (∀ s v, lastAt l vs L s = some v → A.tmps[s]? = some v) → (∀ j d, ((l[j]?).bind fun o : Oper => o.dst) = some d → A.tmps[d]? = some (u j)) → RP w Pr (fun j => decide (j < l.length)) u W → Q .normal A W) :
    (Code.region id l.toArray d).wpIn (FW ro) 0 P Q a w :=
  region_xi F vs (RP w Pr) hm ok (fun _ => ⟨⟨Gr.refl _, fun _ _ _ h => by cases h⟩, ⟨Gr.drew _, fun _ _ _ h => by cases h⟩⟩) hstep hfin
theorem _root_.Go.Proofs.Ytaidcocjcidggaa.Fr.add (F : Fr A n L D) {d : Nat} {v z : Value} (h : A.tmps[d]? = some v) (e : v = z) : Fr A n ((d, z) :: L) D := by
  subst e
  refine ⟨F.sz, F.df, fun s x hm => ?_⟩
  rcases List.mem_cons.1 hm with hm | hm
  · injection hm with h1 h2; subst h1 h2; exact h
  · exact F.get s x hm

/-- a function's contract from its body -/
theorem calls {f : FuncId} {fn : Func} {c : Code} {args : Array Value} {w : World} {R : Ending → World → Prop} (N : Nat) (hf : P.funcs[f]? = some fn) (hb : fn.body = some c) (hN : args.size + (fn.ntmps - args.size) = N)
    (h : ∀ A, Fr A N (X.argL args.toList 0) → c.wpIn (FW none) 0 P (bodyPostM Fence.wide 0 P fn R) A w) : Calls P f args w R := by
  refine callsIn_wide.1 (callsIn_of_wp_marks (F := Fence.wide) (n := 0) hf hb trivial ?_)
  refine h _ ⟨by simpa using hN, rfl, fun s v hm => ?_⟩
  obtain ⟨_, h2⟩ := X.argL_mem hm
  rw [Nat.sub_zero] at h2
  have hlt := (List.getElem?_eq_some_iff.1 h2).1
  show (args ++ Array.replicate (fn.ntmps - args.size) undef)[s]? = some v
  rw [Array.getElem?_append_left (by simpa using hlt)]
  simpa using h2
/-- the results -/
theorem rs1 {fn : Func} {s : Nat} {v : Value} (F : Fr A n L D) (hr : fn.results = #[.tmp s]) (hv : lookS L s = some v) : (results fn A.tmps).run P W = .ok v W := by
  have e := F.look hv
  simp [results, hr, e, go_sem]
theorem rs2 {fn : Func} {s t : Nat} {v x : Value} (F : Fr A n L D) (hr : fn.results = #[.tmp s, .tmp t]) (hv : lookS L s = some v) (hx : lookS L t = some x) : (results fn A.tmps).run P W = .ok (.tuple #[v, x]) W := by
  have e := F.look hv
  have e2 := F.look hx
  simp [results, hr, e, e2, go_sem]
theorem rs3 {fn : Func} {s t r : Nat} {v x y : Value} (F : Fr A n L D) (hr : fn.results = #[.tmp s, .tmp t, .tmp r]) (hv : lookS L s = some v) (hx : lookS L t = some x) (hy : lookS L r = some y) : (results fn A.tmps).run P W = .ok (.tuple #[v, x, y]) W := by
  have e := F.look hv
  have e2 := F.look hx
  have e3 := F.look hy
  simp [results, hr, e, e2, e3, go_sem]
theorem ret0 {fn : Func} {R : Ending → World → Prop} {v : Value} (F : Fr A n L) (hr : (results fn A.tmps).run P W = .ok v W) (h : R (.returned v) W) : bodyPostM Fence.wide 0 P fn R .ret A W := marks_ret0 hr F.df h
/-- two bools -/
theorem eqlB {t : TypeId} {x y : Operand} (hu : P.underlying t = some .bool) {p q b : Bool} (hb : (p == q) = b) : (do eqGuard .eql t x y (.bool p) (.bool q); binOp .eql t (.bool p) (.bool q) : Sem Value).run P W = .ok (.bool b) W := by
  subst hb
  obtain ⟨d, hd⟩ : ∃ d, Op.maxDepth = d + 1 := ⟨_, rfl⟩
  simp [eqGuard, binOp, Op.equal, hd, Op.equalIn, run_underlying hu, go_sem]
/-- a new variable; a new slice -/
theorem al {ρ : Operand → Value} {t : TypeId} {v : Value} (ho : o.op = .alloc t) (hr : (Instr.alloc t true (.tuple #[])).run P W = .ok v W') : (execOp ρ o).run P W = .ok (.value v) W' := by
  unfold execOp; rw [ho]; exact X.run_v hr
theorem pput {d : Option Nat} {v : Value} (F : Fr A n L D) (hd : (match d with | some d => decide (d < n) | none => true) = true) (h : ∀ A', Fr A' n (X.putS L d v) D → wpL P ops Q rest A' W) : wpL P ops Q rest (A.put d v) W := h _ (F.put hd)
theorem wpL_plain (hg : o.guard = none) {a : Act} {w : World} (h : ∀ K : Act → World → Prop, (∀ a w, wpL P ops Q rest a w → K a w) → o.wp P a w K Q) : wpL P ops Q (o :: rest) a w :=
  wpL_step fun K hK => by rw [if_pos (X.w0 hg)]; exact h K hK
/-- a cell that is written -/
theorem st1 {t : TypeId} {p : Addr} {v v0 : Value} (hS : (sizeOf t).run P W = .ok 1 W) (hv : v.cells = #[v]) (hv1 : v.oneCell' = true) (hc : W.cell? p = some v0) (hf : W.frozen? p = false) : (Instr.storeAt t (.pointer (some p)) v).run P W = .ok () (W.setCell p v) := by
  have h := run_store P W p v .plain hv1
  rw [hc, hf] at h
  simp only [Bool.false_eq_true, if_false] at h
  unfold Value.cells at hv
  simp [Instr.storeAt, storeVar, Instr.sureAddr, hS, hv, storeCells, Value.cells, go_sem, h]
end Y
end
section
open Go.RowKit

def nextV (t n : Int) : Int := (t * 257 + n + 1) % 65521
theorem nextV_bd (t n : Int) : 0 ≤ nextV t n ∧ nextV t n ≤ 65520 := by unfold nextV; omega

/-- the tag over the first bytes of the data -/
def tagL (s c v : Int) (data : List UInt8) : Int := data.foldl (fun t b => nextV t (b.toNat : Int)) (nextV (nextV s c) v)
theorem tagL_bd (s c v : Int) (data : List UInt8) : 0 ≤ tagL s c v data ∧ tagL s c v data ≤ 65520 := by
  have : ∀ (l : List UInt8) (t : Int), 0 ≤ t ∧ t ≤ 65520 → 0 ≤ l.foldl (fun t b => nextV t (b.toNat : Int)) t ∧ l.foldl (fun t b => nextV t (b.toNat : Int)) t ≤ 65520 := by
    intro l
    induction l with
    | nil => intro t h; exact h
    | cons b l ih => intro t _; exact ih _ (nextV_bd _ _)
  exact this _ _ (nextV_bd _ _)
theorem take_snocB (s : ByteArray) (k : Nat) (h : k < s.size) : s.data.toList.take (k + 1) = s.data.toList.take k ++ [s[k]] := by
  rw [List.take_succ_eq_append_getElem (by simpa using h)]; rfl
theorem tagL_snoc (s c v : Int) (l : List UInt8) (b : UInt8) : tagL s c v (l ++ [b]) = nextV (tagL s c v l) (b.toNat : Int) := by simp [tagL]

set_option maxHeartbeats 400000 in
theorem tag1_any (n t : Int) (B : Nat) (w : World) (hc : w.cell? ⟨B, 0, none⟩ = some (.int .i64 t)) (hf : w.frozen? ⟨B, 0, none⟩ = false) (h0 : 0 ≤ t) (h1 : t ≤ 65520) (h2 : 0 ≤ n) (h3 : n ≤ 255) :
    Calls Try.prog 96 #[.int .i64 n, .pointer (some ⟨B, 0, none⟩)] w fun e w' => (∃ v, e = .returned v) ∧ w' = w.setCell ⟨B, 0, none⟩ (.int .i64 (nextV t n)) := by
  go_enter Try.func96, Try.ntmps96
  go_wp2
  go_end0
  exact ⟨⟨_, rfl⟩, rfl⟩



set_option maxHeartbeats 1000000 in
theorem tag_any (s c v tg : Int) (data : ByteArray) (w : World) (hs0 : 0 ≤ s) (hs1 : s ≤ 65520) (hc0 : 0 ≤ c) (hc1 : c ≤ 255) (hv0 : 0 ≤ v) (hv1 : v ≤ 255) (hd : data.size ≤ 1000) :
    Calls Try.prog 65 #[.int .i64 s, .agg #[.int .i64 c, .int .i64 v, .string data, .int .i64 tg]] w fun e w' => e = .returned (.int .i64 (tagL s c v data.data.toList)) ∧ Gr w w' := by
  have b1 := nextV_bd s c
  have b2 := nextV_bd (nextV s c) v
  go_enter Try.func65, Try.ntmps65
  go_wp2_with fail
  refine (tag1_any c s (w.heap.size + 1) _ (by simp [go_sem]) (by simp [go_sem]) hs0 hs1 hc0 hc1).mono ?_
  rintro e w1 ⟨⟨x, rfl⟩, rfl⟩
  go_wp2_with fail
  refine (tag1_any v (nextV s c) (w.heap.size + 1) _ (by simp [go_sem]) (by simp [go_sem]) b1.1 b1.2 hv0 hv1).mono ?_
  rintro e w2 ⟨⟨x2, rfl⟩, rfl⟩
  go_wp2_with fail
  go_loopw [21] (fun i wr => ∃ k : Nat, k ≤ data.size ∧ i = .int .i64 k ∧ Gr w wr ∧ wr.cell? ⟨w.heap.size, 2, none⟩ = some (.string data) ∧ wr.cell? ⟨w.heap.size + 1, 0, none⟩ = some (.int .i64 (tagL s c v (data.data.toList.take k))) ∧ wr.frozen? ⟨w.heap.size + 1, 0, none⟩ = false) (fun i _ => data.size - (intOf i).toNat)
  case atStart =>
    refine ⟨0, Nat.zero_le _, rfl, ?_, by simp [go_sem], by simp [go_sem, tagL], by simp [go_sem]⟩
    exact (Gr.alloc _ _).allocR _
  case round =>
    obtain ⟨k, hk, rfl, hg, hcd, hct, hft⟩ := hrel
    have hb := tagL_bd s c v (data.data.toList.take k)
    by_cases hlt : k < data.size
    · have hsn : Hid (tagL s c v (data.data.toList.take (k + 1)) = nextV (tagL s c v (data.data.toList.take k)) (data[k].toNat : Int)) := Lib.hid (by rw [take_snocB data k hlt, tagL_snoc])
      have hby : (data[k].toNat : Int) ≤ 255 := by have := data[k].toNat_lt; omega
      generalize tagL s c v (data.data.toList.take k) = tk at *
      go_wp2_with fail
      refine (tag1_any _ tk (w.heap.size + 1) wr hct hft hb.1 hb.2 (by omega) hby).mono ?_
      rintro e w3 ⟨⟨x3, rfl⟩, rfl⟩
      have k1 : (wr.setCell ⟨w.heap.size + 1, 0, none⟩ (.int .i64 (nextV tk (data[k].toNat : Int)))).cell? ⟨w.heap.size, 2, none⟩ = some (.string data) := by simp [go_sem, hcd]
      have k2 : (wr.setCell ⟨w.heap.size + 1, 0, none⟩ (.int .i64 (nextV tk (data[k].toNat : Int)))).cell? ⟨w.heap.size + 1, 0, none⟩ = some (.int .i64 (nextV tk (data[k].toNat : Int))) := by simp [go_sem, hct]
      have k3 : (wr.setCell ⟨w.heap.size + 1, 0, none⟩ (.int .i64 (nextV tk (data[k].toNat : Int)))).frozen? ⟨w.heap.size + 1, 0, none⟩ = false := by simpa using hft
      have k4 : Gr w (wr.setCell ⟨w.heap.size + 1, 0, none⟩ (.int .i64 (nextV tk (data[k].toNat : Int)))) := hg.setCell (by simp only; omega) _
      generalize wr.setCell ⟨w.heap.size + 1, 0, none⟩ (.int .i64 (nextV tk (data[k].toNat : Int))) = w3 at *
      go_wp2_with fail
      go_roundw
      case rel => exact ⟨k + 1, by omega, by go_num, k4, k1, by rw [hsn.out]; exact k2, k3⟩
      case measure => simp [intOf]; omega
    · obtain rfl : k = data.size := by omega
      go_wp2_with fail
      go_ret
      exact ⟨ret_int (by rw [List.take_of_length_le (by simp)]), hg⟩

/-- the arguments of Tag are in order -/
def tagB (s c v : Int) (data : ByteArray) : Bool := withinB s 1 65520 && withinB c 0 5 && withinB v 0 3 && decide (data.size ≤ 1000)
def tagE (s c v : Int) (data : ByteArray) : Int := if tagB s c v data then 0 else 1
def tagR (s c v : Int) (data : ByteArray) : Int := if tagB s c v data then tagL s c v data.data.toList else 0

set_option maxHeartbeats 1000000 in
theorem Tag_any (s c v tg : Int) (data : ByteArray) (w : World) (hd : data.size < 1152921504606846976) :
    Calls Try.prog 25 #[.int .i64 s, .agg #[.int .i64 c, .int .i64 v, .string data, .int .i64 tg]] w fun e w' => e = .returned (.tuple #[.int .i64 (tagR s c v data), .int .i64 (tagE s c v data)]) ∧ Gr w w' := by
  have HW := Lib.hid within_any
  cases h1 : withinB s 1 65520 with
  | false =>
    have HP : Hid (tagR s c v data = 0 ∧ tagE s c v data = 1) := Lib.hid (by simp [tagR, tagE, tagB, h1])
    go_enter Try.func25, Try.ntmps25
    go_wp2_with fail
    refine (HW.out _ _ _ _).mono ?_
    rintro e w1 ⟨rfl, rfl⟩
    go_wp2_with fail
    go_ret2
    exact ⟨by rw [HP.out.1, HP.out.2]; rfl, Gr.alloc _ _⟩
  | true =>
    cases h2 : withinB c 0 5 with
    | false =>
      have HP : Hid (tagR s c v data = 0 ∧ tagE s c v data = 1) := Lib.hid (by simp [tagR, tagE, tagB, h1, h2])
      go_enter Try.func25, Try.ntmps25
      go_wp2_with fail
      refine (HW.out _ _ _ _).mono ?_
      rintro e w1 ⟨rfl, rfl⟩
      go_wp2_with fail
      refine (HW.out _ _ _ _).mono ?_
      rintro e w1 ⟨rfl, rfl⟩
      go_wp2_with fail
      go_ret2
      exact ⟨by rw [HP.out.1, HP.out.2]; rfl, Gr.alloc _ _⟩
    | true =>
      cases h3 : withinB v 0 3 with
      | false =>
        have HP : Hid (tagR s c v data = 0 ∧ tagE s c v data = 1) := Lib.hid (by simp [tagR, tagE, tagB, h1, h2, h3])
        go_enter Try.func25, Try.ntmps25
        go_wp2_with fail
        refine (HW.out _ _ _ _).mono ?_
        rintro e w1 ⟨rfl, rfl⟩
        go_wp2_with fail
        refine (HW.out _ _ _ _).mono ?_
        rintro e w1 ⟨rfl, rfl⟩
        go_wp2_with fail
        refine (HW.out _ _ _ _).mono ?_
        rintro e w1 ⟨rfl, rfl⟩
        go_wp2_with fail
        go_ret2
        exact ⟨by rw [HP.out.1, HP.out.2]; rfl, Gr.alloc _ _⟩
      | true =>
        by_cases h4 : data.size ≤ 1000
        · have HP : Hid (tagR s c v data = tagL s c v data.data.toList ∧ tagE s c v data = 0) := Lib.hid (by simp [tagR, tagE, tagB, h1, h2, h3, h4])
          have h1' := withinB_iff.1 h1
          have h2' := withinB_iff.1 h2
          have h3' := withinB_iff.1 h3
          have HT := Lib.hid (fun w => tag_any s c v tg data w (by omega) (by omega) (by omega) (by omega) (by omega) (by omega) h4)
          go_enter Try.func25, Try.ntmps25
          go_wp2_with fail
          refine (HW.out _ _ _ _).mono ?_
          rintro e w1 ⟨rfl, rfl⟩
          go_wp2_with fail
          refine (HW.out _ _ _ _).mono ?_
          rintro e w1 ⟨rfl, rfl⟩
          go_wp2_with fail
          refine (HW.out _ _ _ _).mono ?_
          rintro e w1 ⟨rfl, rfl⟩
          go_wp2_with fail
          refine (HT.out _).mono ?_
          rintro e w2 ⟨rfl, g2⟩
          go_wp2_with fail
          go_ret2
          exact ⟨by rw [HP.out.1, HP.out.2]; rfl, (Gr.alloc _ _).trans g2⟩
        · have HP : Hid (tagR s c v data = 0 ∧ tagE s c v data = 1) := Lib.hid (by simp [tagR, tagE, tagB, h1, h2, h3, h4])
          go_enter Try.func25, Try.ntmps25
          go_wp2_with fail
          refine (HW.out _ _ _ _).mono ?_
          rintro e w1 ⟨rfl, rfl⟩
          go_wp2_with fail
          refine (HW.out _ _ _ _).mono ?_
          rintro e w1 ⟨rfl, rfl⟩
          go_wp2_with fail
          refine (HW.out _ _ _ _).mono ?_
          rintro e w1 ⟨rfl, rfl⟩
          go_wp2_with fail
          go_ret2
          exact ⟨by rw [HP.out.1, HP.out.2]; rfl, Gr.alloc _ _⟩
end
section
open Go.RowKit
end
section
open Go.RowKit

def acceptE (f : Fl) (s c v : Int) (data : ByteArray) (tg : Int) : Int := if tagE s c v data = 0 then (if verB f.times c v then (if tagR s c v data = tg then 0 else 113) else 1) else tagE s c v data

/-- the boxes of a fleet and a packet -/
structure PkB (w w2 : World) (va vb p0 p1 p2 p3 : Value) : Prop where
  gr : Gr w w2
  c0 : w2.cell? ⟨w.heap.size, 0, none⟩ = some va
  c1 : w2.cell? ⟨w.heap.size, 1, none⟩ = some vb
  d0 : w2.cell? ⟨w.heap.size + 1, 0, none⟩ = some p0
  d1 : w2.cell? ⟨w.heap.size + 1, 1, none⟩ = some p1
  d2 : w2.cell? ⟨w.heap.size + 1, 2, none⟩ = some p2
  d3 : w2.cell? ⟨w.heap.size + 1, 3, none⟩ = some p3
theorem pkB (w : World) (va vb p0 p1 p2 p3 : Value) : PkB w ((w.alloc (.cells #[va, vb] 25)).alloc (.cells #[p0, p1, p2, p3] 46)) va vb p0 p1 p2 p3 := by
  have s1 : (w.alloc (.cells #[va, vb] 25)).heap.size = w.heap.size + 1 := by simp
  have g := Gr.alloc (w.alloc (.cells #[va, vb] 25)) (.cells #[p0, p1, p2, p3] 46)
  refine ⟨(Gr.alloc _ _).allocR _, (g.cell (by simp)).trans (cell_new rfl), (g.cell (by simp)).trans (cell_new rfl), ?_, ?_, ?_, ?_⟩ <;> (rw [← s1]; exact cell_new rfl)
theorem PkB.then {w w2 w' : World} {va vb p0 p1 p2 p3 : Value} (h : PkB w w2 va vb p0 p1 p2 p3) (g : Gr w2 w') : PkB w w' va vb p0 p1 p2 p3 :=
  ⟨h.gr.trans g, (g.cell (lt_cell h.c0)).trans h.c0, (g.cell (lt_cell h.c1)).trans h.c1, (g.cell (lt_cell h.d0)).trans h.d0, (g.cell (lt_cell h.d1)).trans h.d1, (g.cell (lt_cell h.d2)).trans h.d2, (g.cell (lt_cell h.d3)).trans h.d3⟩
-- PRINTED

set_option maxHeartbeats 1000000 in
theorem accept_any (ta ca : Option Addr) (tn tc cn cc : Nat) (f : Fl) (s c v tg : Int) (data : ByteArray) (w : World) (hf : FlAt w ta tn ca cn f) (hd : data.size < 1152921504606846976) :
    Calls Try.prog 68 #[.agg #[.slice ta tn tc, .slice ca cn cc], .int .i64 s, .agg #[.int .i64 c, .int .i64 v, .string data, .int .i64 tg]] w fun e w' => e = .returned (.int .i64 (acceptE f s c v data tg)) ∧ Gr w w' := by
  have hB := pkB w (.slice ta tn tc) (.slice ca cn cc) (.int .i64 c) (.int .i64 v) (.string data) (.int .i64 tg)
  obtain ⟨w2, hw2⟩ : ∃ w2, (w.alloc (.cells #[.slice ta tn tc, .slice ca cn cc] 25)).alloc (.cells #[.int .i64 c, .int .i64 v, .string data, .int .i64 tg] 46) = w2 := ⟨_, rfl⟩
  rw [hw2] at hB
  have d0 := hB.d0
  have d1 := hB.d1
  have d2 := hB.d2
  have d3 := hB.d3
  have HT := Lib.hid (Tag_any s c v tg data w2 hd)
  by_cases he : tagE s c v data = 0
  · have heb : (tagE s c v data != 0) = false := by simp [he]
    have HA : Hid (acceptE f s c v data tg = if verB f.times c v then (if tagR s c v data = tg then 0 else 113) else 1) := Lib.hid (by unfold acceptE; rw [if_pos he])
    clear he
    go_enter Try.func68, Try.ntmps68
    go_wp2_with fail
    refine HT.out.mono ?_
    rintro e w3 ⟨rfl, g3⟩
    have hB3 := hB.then g3
    clear hw2 hB HT g3 d0 d1 d2 d3
    have c0 := hB3.c0
    have c1 := hB3.c1
    have d0 := hB3.d0
    have d1 := hB3.d1
    have HV := Lib.hid (version_any ta ca tn tc cn cc f c v w3 (hf.gr hB3.gr))
    go_wp2_with fail
    refine HV.out.mono ?_
    rintro e w4 ⟨rfl, g4⟩
    have hB4 := hB3.then g4
    clear HV hB3 g4 c0 c1 d0 d1
    have d3 := hB4.d3
    cases hv : verB f.times c v with
    | false =>
      have HP : Hid (acceptE f s c v data tg = 1) := Lib.hid (by rw [HA.out, hv]; rfl)
      go_wp2_with fail
      go_ret
      exact ⟨by rw [HP.out]; rfl, hB4.gr⟩
    | true =>
      by_cases ht : tagR s c v data = tg
      · have htb : (tg != tagR s c v data) = false := by simp [ht]
        have HP : Hid (acceptE f s c v data tg = 0) := Lib.hid (by rw [HA.out, hv, if_pos rfl, if_pos ht])
        clear ht
        go_wp2_with fail
        go_ret
        exact ⟨by rw [HP.out]; rfl, hB4.gr⟩
      · have htb : (tg != tagR s c v data) = true := by simp; omega
        have HP : Hid (acceptE f s c v data tg = 113) := Lib.hid (by rw [HA.out, hv, if_pos rfl, if_neg ht])
        clear ht
        go_wp2_with fail
        go_ret
        exact ⟨by rw [HP.out]; rfl, hB4.gr⟩
  · have heb : (tagE s c v data != 0) = true := by simp [he]
    have HP : Hid (acceptE f s c v data tg = tagE s c v data) := Lib.hid (by unfold acceptE; rw [if_neg he])
    clear he
    go_enter Try.func68, Try.ntmps68
    go_wp2_with fail
    refine HT.out.mono ?_
    rintro e w3 ⟨rfl, g3⟩
    go_wp2_with fail
    go_ret
    exact ⟨by rw [HP.out]; rfl, hB.gr.trans g3⟩
end
section
open Go.RowKit

def wE (f : Fl) (s : List Int) : Int := statesE f [s]
def wI (f : Fl) (s : List Int) : Int := if statesE f [s] = 0 then clashI f s else 0
def wB (f : Fl) (s : List Int) : Bool := if statesE f [s] = 0 then worksB f s else false

set_option maxRecDepth 100000 in
set_option maxHeartbeats 4000000 in
theorem Works_any (ta ca : Option Addr) (a : Option Addr) (tn tc cn cc n c : Nat) (f : Fl) (xs : List Int) (w : World) (hf : FlAt w ta tn ca cn f) (hx : Ints w a n xs) :
    Calls Try.prog 38 #[.agg #[.slice ta tn tc, .slice ca cn cc], .slice a n c] w fun e w' => e = .returned (.tuple #[.int .i64 (wI f xs), .bool (wB f xs), .int .i64 (wE f xs)]) ∧ Gr w w' := by
  have g := Gr.alloc w (.cells #[.slice ta tn tc, .slice ca cn cc] 25)
  have hC : RCells (w.alloc (.cells #[.slice ta tn tc, .slice ca cn cc] 25)) [(⟨w.heap.size, 0, none⟩, .slice ta tn tc), (⟨w.heap.size, 1, none⟩, .slice ca cn cc)] := (RCells.nil w).box (b := w.heap.size) #[.slice ta tn tc, .slice ca cn cc] 25 rfl
  obtain ⟨w2, hw2⟩ : ∃ w2, w.alloc (.cells #[.slice ta tn tc, .slice ca cn cc] 25) = w2 := ⟨_, rfl⟩
  rw [hw2] at g hC
  have G := g
  replace hf := hf.gr g
  replace hx := hx.gr g
  clear g
  have c0 : w2.cell? (⟨w.heap.size, 0, none⟩) = some (.slice ta tn tc) := hC.at 0 rfl
  have c1 : w2.cell? (⟨w.heap.size, 1, none⟩) = some (.slice ca cn cc) := hC.at 1 rfl
  go_enter Try.func38, Try.ntmps38
  have g := Gr.alloc w2 (.cells #[.slice a n c] 26)
  have hb := heap_alloc_new w2 (.cells #[.slice a n c] 26)
  have hbl : w2.heap.size < (w2.alloc (.cells #[.slice a n c] 26)).heap.size := by simp
  obtain ⟨w4, hww4⟩ : ∃ w0, w2.alloc (.cells #[.slice a n c] 26) = w0 := ⟨_, rfl⟩
  rw [hww4] at g hb hbl
  replace G := G.trans g
  replace hC := hC.gr g
  replace hf := hf.gr g
  replace hx := hx.gr g
  have c0a4 : w4.cell? (⟨w.heap.size, 0, none⟩) = some (.slice ta tn tc) := hC.at 0 rfl
  have c1a4 : w4.cell? (⟨w.heap.size, 1, none⟩) = some (.slice ca cn cc) := hC.at 1 rfl
  have hR3 := (rows1 (c := c) hbl (cell_at hb rfl) hx : RowsAt w4 (some ⟨w2.heap.size, 0, none⟩) 1 [xs])
  clear g hb hbl
  have HC := Lib.hid (checkStates_any ta ca (some ⟨w2.heap.size, 0, none⟩) tn tc cn cc 1 1 f ([xs]) w4 hf hR3)
  go_wp2_with fail
  refine HC.out.mono ?_
  rintro e w5 ⟨rfl, g⟩
  clear HC
  clear hw2 hww4
  replace G := G.trans g
  replace hC := hC.gr g
  replace hf := hf.gr g
  replace hx := hx.gr g
  replace hR3 := hR3.gr g
  clear g
  clear c0 c1 c0a4 c1a4
  have c0 : w5.cell? (⟨w.heap.size, 0, none⟩) = some (.slice ta tn tc) := hC.at 0 rfl
  have c1 : w5.cell? (⟨w.heap.size, 1, none⟩) = some (.slice ca cn cc) := hC.at 1 rfl
  by_cases h6 : (statesE f ([xs]) : Int) = 0
  · have h6b : ((statesE f ([xs]) : Int) != 0) = false := by simp [h6]
    have Hh6 := Lib.hid h6
    clear h6
    have hok : FlOk f := chkB_ok (statesE_zero Hh6.out).1
    have hst : StOk f xs := stB_ok (by have := (statesE_zero Hh6.out).2; simpa [stsB] using this)
    have HC := Lib.hid (clash_any ta ca a tn tc cn cc n c f xs w5 hf hok hx hst)
    go_wp2_with fail
    refine HC.out.mono ?_
    rintro e w7 ⟨rfl, g⟩
    clear HC
    replace G := G.trans g
    replace hC := hC.gr g
    replace hf := hf.gr g
    replace hx := hx.gr g
    replace hR3 := hR3.gr g
    clear g
    clear c0 c1
    have c0 : w7.cell? (⟨w.heap.size, 0, none⟩) = some (.slice ta tn tc) := hC.at 0 rfl
    have c1 : w7.cell? (⟨w.heap.size, 1, none⟩) = some (.slice ca cn cc) := hC.at 1 rfl
    go_wp2_with fail
    go_ret3
    exact ⟨by rw [wI, wB, wE, if_pos Hh6.out, if_pos Hh6.out, Hh6.out]; rfl, G⟩
  · have h6b : ((statesE f ([xs]) : Int) != 0) = true := by simp [h6]
    have Hh6 := Lib.hid h6
    clear h6
    go_wp2_with fail
    go_ret3
    exact ⟨by rw [wI, wB, wE, if_neg Hh6.out, if_neg Hh6.out]; rfl, G⟩
end
section
open Go.RowKit


theorem stsB_cons (T : List (List Int)) (a : List Int) (L : List (List Int)) : stsB T (a :: L) = (stB T a && stsB T L) := by
  unfold stsB
  rw [List.length_cons, List.range_succ_eq_map]
  simp [List.all_map, Function.comp_def]
end
section
open Go.RowKit

theorem run_take (w : World) (pa : Option Addr) (n c k : Nat) (hk : k ≤ c) : (Instr.slice 22 (.slice pa n c) none (some (.int .i64 k)) none).run Try.prog w = .ok (.slice pa k c) w := by
  have hu := Try.underlying22
  have ha : ∀ a : Addr, a.add 0 = a := fun a => by unfold Addr.add; rfl
  have hm : pa.map (fun a => a.add 0) = pa := by cases pa <;> simp [ha]
  have h1 : (0 : Int) ≤ k ∧ (k : Int) ≤ c := by omega
  obtain ⟨i0, hi, hz0, hz1, hz2⟩ := info_parts Try.info26
  simp [Instr.slice, Instr.sliceBounds, Instr.sliceBound, underlying, hu, sizeOf, hi, hz1, asIntOf, h1, hm, go_sem]
  intro h; omega

/-- append of the first states of a plan to a new list of one state -/
theorem wpList_front {ops : Array Oper} {rest : List Oper} {o : Oper} {a : Act} {w3 W : World} {Q : Exit → Act → World → Prop} (hgd : o.guard = none) {s x : Operand} {sa pa : Option Addr} {n c pn pc g : Nat} {xs : List Int} {L : List (List Int)}
    (ho : o.op = .call { callee := .builtin .append, args := #[s, x], argTypes := #[22, 22] }) (hs : a.eval s = .slice (some ⟨g, 0, none⟩) 1 1) (hx : a.eval x = .slice pa pn pc)
    (hg : W.heap[g]? = some (.cells #[.slice sa n c] 26 (0, 0))) (hge : w3.heap.size ≤ g) (hgr : Gr w3 W) (hi : Ints w3 sa n xs) (hL : RowsAt w3 pa pn L) (h64 : pn ≤ 64)
    (h : ∀ ra rc w6, RowsAt w6 ra (pn + 1) (xs :: L) → Gr w3 w6 → wpList Try.prog ops Q rest (a.put o.dst (.slice ra (pn + 1) rc)) w6) : wpList Try.prog ops Q (o :: rest) a W :=
  wpList_plain hgd fun K hK => cp_append ho hs hx hg hge hgr hi hL h64 (fun ra rc w6 k1 k2 => hK _ _ (h ra rc w6 k1 k2))

set_option maxRecDepth 100000 in
set_option maxHeartbeats 4000000 in
theorem back_any (ta ca a pa : Option Addr) (tn tc cn cc n c pn pc : Nat) (f : Fl) (xs : List Int) (L : List (List Int)) (bu dn : Int) (w : World) (hf : FlAt w ta tn ca cn f) (hx : Ints w a n xs) (hL : RowsAt w pa pn L) (hpc : pn ≤ pc) :
    Calls Try.prog 32 #[.agg #[.slice ta tn tc, .slice ca cn cc], .slice a n c, .slice pa pn pc, .int .i64 bu, .int .i64 dn] w (PlanPost w (backV f xs L bu dn) (backE f xs L bu dn)) := by
  have g1 := Gr.alloc w (.cells #[.slice ta tn tc, .slice ca cn cc] 25)
  have c0 := cell_new (w := w) (t := 25) (cs := #[.slice ta tn tc, .slice ca cn cc]) (j := 0) rfl
  have c1 := cell_new (w := w) (t := 25) (cs := #[.slice ta tn tc, .slice ca cn cc]) (j := 1) rfl
  obtain ⟨w1, hw1⟩ : ∃ w1, w.alloc (.cells #[.slice ta tn tc, .slice ca cn cc] 25) = w1 := ⟨_, rfl⟩
  rw [hw1] at g1 c0 c1
  have HC := Lib.hid (checkPlan_any ta ca a pa tn tc cn cc n c pn pc f xs L bu w1 (hf.gr g1) (hx.gr g1) (hL.gr g1))
  by_cases he : (cpR f xs L bu).2 = 0
  · have heb : ((cpR f xs L bu).2 != 0) = false := by simp [he]
    have HE : Hid (backE f xs L bu dn = (if withinB dn 0 L.length then 0 else 1)) := Lib.hid (by unfold backE; rw [if_pos he])
    have hpl := cpR_pl he
    have HPL := Lib.hid hpl
    have hn1 : 0 < n := by have := hpl.ok.n1; have := hpl.a.len; have := hx.len; omega
    have hn6 : n ≤ 6 := by have := hpl.ok.n6; have := hpl.a.len; have := hx.len; omega
    have hp64 : pn ≤ 64 := by have := hpl.n64; have := hL.len; omega
    have hPN := Lib.hid hL.len
    clear he hpl
    cases hb : withinB dn 0 pn with
    | false =>
      have HP : Hid (backE f xs L bu dn = 1 ∧ backV f xs L bu dn = []) := Lib.hid (by
        have : backE f xs L bu dn = 1 := by rw [HE.out, hL.len, hb]; rfl
        exact ⟨this, by unfold backV; rw [this]; rfl⟩)
      have HWI := Lib.hid (show ∀ W, Calls Try.prog 64 #[.int .i64 dn, .int .i64 0, .int .i64 pn] W fun e w' => e = .returned (.bool false) ∧ W = w' from fun W => hb ▸ within_any dn 0 pn W)
      clear hb
      go_enter Try.func32, Try.ntmps32
      go_wp2_with fail
      refine HC.out.mono ?_
      rintro e w3 ⟨rfl, g3⟩
      go_wp2_with fail
      refine (HWI.out _).mono ?_
      rintro e w' ⟨rfl, rfl⟩
      go_wp2_with fail
      go_ret2
      exact ⟨none, 0, 0, by rw [HP.out.1]; rfl, by rw [HP.out.2]; exact RowsAt.nil _, g1.trans g3, Nat.le_refl _⟩
    | true =>
      obtain ⟨d, rfl, hdp⟩ : ∃ d : Nat, dn = d ∧ d ≤ pn := by
        simp [withinB] at hb
        exact ⟨dn.toNat, by omega, by omega⟩
      have HP : Hid (backE f xs L bu d = 0 ∧ backV f xs L bu d = bk xs L d) := Lib.hid (by
        have : backE f xs L bu d = 0 := by rw [HE.out, hL.len, hb]; rfl
        exact ⟨this, by unfold backV; rw [this]; rfl⟩)
      have HWI := Lib.hid (show ∀ W, Calls Try.prog 64 #[.int .i64 d, .int .i64 0, .int .i64 pn] W fun e w' => e = .returned (.bool true) ∧ W = w' from fun W => hb ▸ within_any d 0 pn W)
      clear hb HE
      go_enter Try.func32, Try.ntmps32
      go_wp2_with fail
      refine HC.out.mono ?_
      rintro e w3 ⟨rfl, g3⟩
      have G3 := g1.trans g3
      have hx3 := hx.gr G3
      have hL3 := hL.gr G3
      clear hw1 c0 c1 HC g1 g3
      have hsl := run_take w3 pa pn pc d (by omega)
      have g4 := Gr.alloc w3 (.cells #[.slice a n c] 26)
      have hg4 := heap_alloc_new w3 (.cells #[.slice a n c] 26)
      have hsl4 := run_take (w3.alloc (.cells #[.slice a n c] 26)) pa pn pc d (by omega)
      have hLd : RowsAt w3 pa d (L.take d) := hL3.take hdp
      go_wp2_with fail
      refine (HWI.out _).mono ?_
      rintro e w' ⟨rfl, rfl⟩
      clear HWI
      go_wp2_with (at_builtin; refine wpList_front rfl rfl rfl rfl hg4 (Nat.le_refl _) g4 hx3 hLd (by omega) ?_; intro ra rc w5 hA g5)
      clear hg4 g4 hsl hsl4 hLd
      go_wp2_with fail
      go_loopw [10, 15] (fun o i wr => ∃ (k : Nat) (Lo : List (List Int)), k ≤ d ∧ i = .int .i64 ((k : Int) - 1) ∧ Gr w5 wr ∧ OutR wr w5.heap.size o Lo ∧ Lo.length = d - k ∧ Hid (Lo ++ bk xs L k = bk xs L d)) (fun _ i _ => (intOf i + 1).toNat)
      case atStart => exact ⟨d, [], Nat.le_refl _, rfl, Gr.refl _, OutR.nil _ _, by simp, Lib.hid rfl⟩
      case round =>
        obtain ⟨k, Lo, hk, rfl, gr, hO, hlo, HT⟩ := hrel
        cases k with
        | zero =>
          have hz : (((0 : Nat) : Int) - 1) = -1 := rfl
          rw [hz]
          have HF : Hid (Lo = backV f xs L bu d) := Lib.hid (by rw [HP.out.2, ← HT.out]; simp [bk])
          clear hz
          go_wp2_with fail
          go_ret2
          rw [← HF.out, HP.out.1]
          exact hO.post ((G3.trans g5).trans gr) (by omega)
        | succ m =>
          have hz : (((m + 1 : Nat) : Int) - 1) = (m : Int) := by omega
          rw [hz]
          obtain ⟨pd, qa, qn, qc, rfl, hpb, hpcell, hqi⟩ := (hA.gr gr).at (j := m) (by omega)
          have hqv : ((xs :: L.take d)[m]?.getD []) = pAt xs L m := by
            unfold pAt
            cases m with
            | zero => rfl
            | succ m => simp only [List.getElem?_cons_succ]; rw [List.getElem?_take_of_lt (by omega)]
          rw [hqv] at hqi
          have hqn : qn = n := by
            have := (HPL.out.at (k := m) (by have := hPN.out; omega)).len
            have := HPL.out.a.len; have := hx.len; have := hqi.len; omega
          subst hqn
          have HT2 : Hid ((Lo ++ [pAt xs L m]) ++ bk xs L m = bk xs L d) := Lib.hid (by rw [← HT.out]; simp [bk])
          generalize pAt xs L m = q at *
          obtain ⟨qd, rfl, _, _⟩ := hqi.at hn1
          have HCN := Lib.hid (clone_any (some qd) qn qc q wr hqi hn1 (by omega))
          have hlc := hqi.len
          clear hqv hz
          go_wp2_with fail
          refine HCN.out.mono ?_
          rintro e w9 ⟨g9, gc, rfl, hge9, hgi, hg9, hg3⟩
          rw [hlc] at hgi ⊢
          have G9 := gr.trans hg9
          have hO9 := hO.gr (hg9.allocR (.cells #[.slice (some ⟨g9, 0, none⟩) qn gc] 26))
          have hy9 := hgi.gr (Gr.alloc w9 (.cells #[.slice (some ⟨g9, 0, none⟩) qn gc] 26))
          have h39 := hg3.gr (Gr.alloc w9 (.cells #[.slice (some ⟨g9, 0, none⟩) qn gc] 26))
          have G10 := G9.allocR (.cells #[.slice (some ⟨g9, 0, none⟩) qn gc] 26)
          have hg10 := heap_alloc_new w9 (.cells #[.slice (some ⟨g9, 0, none⟩) qn gc] 26)
          clear HCN hgi hg3 hg9
          go_wp2_with (at_builtin; refine wpList_push rfl rfl rfl rfl hg10 hO9 G10 hy9 h39 (by omega) ?_; intro v' w11 hO11 G11 _)
          clear hO9 hy9 h39 G10 hg10
          go_wp2_with fail
          go_roundw
          case rel => exact ⟨m, Lo ++ [q], by omega, rfl, G11, hO11, by simp only [List.length_append, List.length_singleton, hlo]; omega, HT2⟩
          case measure => simp [intOf] <;> omega
  · have heb : ((cpR f xs L bu).2 != 0) = true := by simp [he]
    have HP : Hid (backE f xs L bu dn = (cpR f xs L bu).2 ∧ backV f xs L bu dn = []) := Lib.hid (by
      have : backE f xs L bu dn = (cpR f xs L bu).2 := by unfold backE; rw [if_neg he]
      exact ⟨this, by unfold backV; rw [this, if_neg he]⟩)
    clear he
    go_enter Try.func32, Try.ntmps32
    go_wp2_with fail
    refine HC.out.mono ?_
    rintro e w3 ⟨rfl, g3⟩
    go_wp2_with fail
    go_ret2
    exact ⟨none, 0, 0, by rw [HP.out.1]; rfl, by rw [HP.out.2]; exact RowsAt.nil _, g1.trans g3, Nat.le_refl _⟩
end
end Go.Proofs.Ytaidcocjcidggaa
