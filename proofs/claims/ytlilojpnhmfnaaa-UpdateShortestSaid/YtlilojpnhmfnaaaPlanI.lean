/- Contract: Plan, where its arguments are in order. -/
import Derived.Test.YtlilojpnhmfnaaaPlanH
import Derived.Maps.Own
namespace Go.Proofs.Ytlilojpnhmfnaaa
open Go.RowKit

theorem plannedE_ok {f : Fl} {bu : Int} {a b : List Int} (h : plannedE f a b bu = 0) : beginE f bu [a, b] = 0 ∧ worksB f a = true ∧ worksB f b = true := by
  unfold plannedE at h
  split at h
  · rename_i hb
    split at h
    · rename_i hw
      simp at hw
      exact ⟨hb, hw.1, hw.2⟩
    · simp at h
  · rename_i hb; exact absurd h hb

theorem memo_new (w : World) (G : List Int → Value → Prop) : Memo (w.alloc (.map #[] 0)) w.heap.size G := ⟨#[], 0, World.alloc_heap_new _ _, fun e he => by simp at he, by simp⟩

/-- a new planner -/
theorem planner_new {w : World} {ta ca b : Option Addr} {tn tc cn cc n d : Nat} {f : Fl} {ys : List Int} {bu : Int} (hf : FlAt w ta tn ca cn f) (hy : Ints w b n ys) :
    PInv ⟨w.heap.size + 1, w.heap.size, ta, tn, tc, ca, cn, cc, b, d, n, f, ys, bu⟩ (fun _ => False) ((w.alloc (.map #[] 0)).alloc (.cells #[.slice ta tn tc, .slice ca cn cc, .slice b n d, .int .i64 bu, .map (some w.heap.size)] 77)) := by
  have g2 := (Gr.alloc w (.map #[] 0)).allocR (.cells #[.slice ta tn tc, .slice ca cn cc, .slice b n d, .int .i64 bu, .map (some w.heap.size)] 77)
  have g3 := Gr.alloc (w.alloc (.map #[] 0)) (.cells #[.slice ta tn tc, .slice ca cn cc, .slice b n d, .int .i64 bu, .map (some w.heap.size)] 77)
  have s1 : w.heap.size + 1 = (w.alloc (.map #[] 0)).heap.size := by simp
  have hc : ∀ j v, (#[Value.slice ta tn tc, .slice ca cn cc, .slice b n d, .int .i64 bu, .map (some w.heap.size)] : Array Value)[j]? = some v → ((w.alloc (.map #[] 0)).alloc (.cells #[.slice ta tn tc, .slice ca cn cc, .slice b n d, .int .i64 bu, .map (some w.heap.size)] 77)).cell? ⟨w.heap.size + 1, j, none⟩ = some v := fun j v h => by rw [s1]; exact cell_new h
  exact ⟨hc 0 _ rfl, hc 1 _ rfl, hc 2 _ rfl, hc 3 _ rfl, hc 4 _ rfl, hf.gr g2, hy.gr g2, (memo_new w _).mono (g3.below.block _ (by simp)) (fun _ _ h => h)⟩

theorem Try.field79_3 (w : World) (st ti : Int) (xa : Option Addr) (xk xc : Nat) (xb : Bool) : (Instr.field 79 (.agg #[.int .i64 st, .int .i64 ti, .slice xa xk xc, .bool xb]) 3).run Try.prog w = .ok (.bool xb) w := by kernel_rfl
theorem Try.field79_2 (w : World) (st ti : Int) (xa : Option Addr) (xk xc : Nat) (xb : Bool) : (Instr.field 79 (.agg #[.int .i64 st, .int .i64 ti, .slice xa xk xc, .bool xb]) 2).run Try.prog w = .ok (.slice xa xk xc) w := by kernel_rfl

theorem one_cell (w : World) (v : Value) (t : TypeId) : ∀ j u, [v][j]? = some u → (w.alloc (.cells #[v] t)).cell? ((⟨w.heap.size, 0, none⟩ : Addr).add j) = some u := by
  intro j u hj
  cases j with
  | zero => simp at hj; subst hj; exact cell_new rfl
  | succ j => simp at hj
theorem one_one (ad : Option Addr) (n c : Nat) : ∀ u ∈ [Value.slice ad n c], u.oneCell' = true := by
  intro u hu
  simp at hu
  subst hu
  rfl

def sliceLen : Value → Nat
  | .slice _ k _ => k
  | _ => 0

theorem PlanR.len {q : PP} (H : PHyp q) {W1 wr : World} {fr cur : List Int} {done : List (List Int)} {sv v : Value} (h : PlanR q W1 fr cur done sv v wr) (hfr : StOk q.f fr) : sliceLen v = done.length ∧ done.length + (pathV q.f q.to q.bu cur).length ≤ 18 := by
  constructor
  · obtain ⟨xs, h1, _⟩ := h.out
    rcases h1.2 with ⟨rfl, h0⟩ | ⟨g, cap, cc, rfl, _⟩
    · rw [h0]; rfl
    · rfl
  · have h1 := congrArg List.length h.tot
    rw [List.length_append] at h1
    rw [h1]
    have h2 := pathF_len q.f q.to q.bu (gap fr q.to) fr
    have h3 := gapTo_bd H.ok hfr H.sto q.to.length (by rw [H.sto.len]; exact Nat.le_refl _)
    have h4 := H.ok.n6
    have h5 := H.sto.len
    show (pathF q.f q.to q.bu (gap fr q.to) fr).length ≤ 18
    unfold gap at h2 ⊢
    omega

/-- best has been asked for the next state -/
theorem PlanR.call {q : PP} {W1 wr w' : World} {fr cur : List Int} {done : List (List Int)} {sv v : Value} (h : PlanR q W1 fr cur done sv v wr) (hI : PInv q (fun _ => False) W1) (g : Only (fun b => b = q.m) wr w') (hI' : PInv q (fun _ => False) w') : PlanR q W1 fr cur done sv v w' := by
  have hn := (h.inv hI).noc
  refine ⟨h.on.trans (g.mono' (fun i e => .inl e)), hI'.memo, h.out.only g hn, ?_, h.st, h.is, h.tot⟩
  obtain ⟨a, c, h1, h2, h3⟩ := h.sa
  exact ⟨a, c, h1, h2.only g hn, fun ad e => by
    rcases h3 ad e with h | h
    · exact .inl h
    · exact .inr (h.onlyN g hn)⟩

/-- one state more -/
theorem PlanR.push {q : PP} {W1 wr w' : World} {fr cur nx : List Int} {done : List (List Int)} {sv v v' : Value} {ov : List Value} {na ad : Addr} {nc c : Nat} (h : PlanR q W1 fr cur done sv v wr)
    (h1 : wr.ownsRow W1.heap.size 26 1 v done.length ov) (h2 : ∀ j, j < done.length → ∃ ad n c, ov[j]? = some (.slice (some ad) n c) ∧ Ints wr (some ad) n (done[j]?.getD []) ∧ Is3 wr ad.block)
    (hm : q.m < W1.heap.size) (hna : Ints wr (some na) q.n nx) (hna3 : Is3 wr na.block) (hx : Ints wr (some ad) q.n nx) (hx3 : Is3 wr ad.block)
    (hown : w'.ownsRow W1.heap.size 26 1 v' (done.length + 1) (ov ++ [.slice (some ad) q.n c])) (hgrow : wr.grownBy w' v.ownBlock) (hst : StOk q.f nx) (his : (bestV q.f q.to q.bu nx).is = true)
    (htot : (done ++ [nx]) ++ pathV q.f q.to q.bu nx = pathV q.f q.to q.bu fr) : PlanR q W1 fr nx (done ++ [nx]) (.slice (some na) q.n nc) v' w' := by
  have hO := only_grown hgrow
  have hb : ∀ b, v.ownBlock = some b → W1.heap.size ≤ b ∧ ¬ Is3 wr b := fun b e => own_block h1 e
  refine ⟨h.on.trans (hO.mono' (fun i e => .inr (hb i e).1)), ?_, OutR.push h1 h2 hx hx3 hown hgrow, ⟨some na, nc, rfl, ?_, fun ad' e => ?_⟩, hst, his, htot⟩
  · refine h.memo.mono (hO.block _ h.memo.lt (fun e => by have := (hb _ e).1; omega)) (fun s v hv => ⟨hv.1, ?_⟩)
    obtain ⟨a', k', c', k1, k2, k3⟩ := hv.2
    exact ⟨a', k', c', k1, k2.onlyAt hO (fun ad' e he => (hb _ he).2 (k3 ad' e).2), fun ad' e => ⟨(k3 ad' e).1, (k3 ad' e).2.only hO (fun he => (hb _ he).2 (k3 ad' e).2)⟩⟩
  · exact hna.onlyAt hO (fun ad' e he => by cases e; exact (hb _ he).2 hna3)
  · cases e
    exact .inr (hna3.only hO (fun he => (hb _ he).2 hna3))

set_option maxRecDepth 100000 in
set_option maxHeartbeats 4000000 in
theorem plan_good (ta ca a b : Option Addr) (tn tc cn cc n c d : Nat) (f : Fl) (xs ys : List Int) (bu : Int) (w : World) (hf : FlAt w ta tn ca cn f) (hx : Ints w a n xs) (hy : Ints w b n ys) (he : plannedE f xs ys bu = 0) :
    Calls Try.prog 17 #[.agg #[.slice ta tn tc, .slice ca cn cc], .slice a n c, .slice b n d, .int .i64 bu] w (PlanPost w (planV f xs ys bu) (planE f xs ys bu)) := by
  have h2 := pb w (.slice ta tn tc) (.slice ca cn cc) (.slice a n c) (.slice b n d)
  obtain ⟨w2, hw2⟩ : ∃ w2, (w.alloc (.cells #[.slice ta tn tc, .slice ca cn cc] 25)).alloc (.cells #[.slice a n c, .slice b n d] 26) = w2 := ⟨_, rfl⟩
  rw [hw2] at h2
  have hcon := Lib.hid (begin_any ta ca _ tn tc cn cc 2 2 f bu [xs, ys] w2 (hf.gr h2.gr) (rows2 (c := c) (d := d) h2.sz h2.d0 h2.d1 (hx.gr h2.gr) (hy.gr h2.gr)))
  obtain ⟨hb, hwx, hwy⟩ := plannedE_ok he
  obtain ⟨hok, hsx, hsy⟩ := beginE_ok hb
  have hbb : (beginE f bu [xs, ys] != 0) = false := by simp [hb]
  have HP1 : Hid ((bestV f ys bu xs).is = false → planE f xs ys bu = 112 ∧ planV f xs ys bu = []) := Lib.hid (fun h => by
    have : planE f xs ys bu = 112 := by unfold planE; rw [if_pos he, h]; rfl
    exact ⟨this, by unfold planV; rw [this]; rfl⟩)
  have HP2 : Hid ((bestV f ys bu xs).is = true → planE f xs ys bu = 0 ∧ planV f xs ys bu = pathV f ys bu xs) := Lib.hid (fun h => by
    have : planE f xs ys bu = 0 := by unfold planE; rw [if_pos he, h]; rfl
    exact ⟨this, by unfold planV; rw [this]; rfl⟩)
  have hnt : n = f.times.length := by rw [← hsx.len, hx.len]
  have H : ∀ bp m, PHyp ⟨bp, m, ta, tn, tc, ca, cn, cc, b, d, n, f, ys, bu⟩ := fun bp m => ⟨hok, hsy, hnt⟩
  have hn1 : 0 < n := by have := hok.n1; omega
  have hn6 : n ≤ 6 := by have := hok.n6; omega
  have HNT := Lib.hid hnt
  have HB := Lib.hid hb
  clear hb he hnt
  have c0 := h2.c0
  have c1 := h2.c1
  have hmm := @run_makeMap Try.prog
  have hfl3 := Try.field79_3
  have hfl2 := Try.field79_2
  go_enter Try.func17, Try.ntmps17
  go_wp2_with fail
  refine hcon.out.mono ?_
  rintro e w3 ⟨rfl, g3⟩
  clear hw2
  have G3 := h2.gr.trans g3
  have e0 := (g3.cell (lt_cell c0)).trans c0
  have e1 := (g3.cell (lt_cell c1)).trans c1
  have HW := works_any ta ca a tn tc cn cc n c f xs w3 (hf.gr G3) hok (hx.gr G3) hsx
  rw [hwx] at HW
  have HWh := Lib.hid HW
  clear HW
  go_wp2_with fail
  refine HWh.out.mono ?_
  rintro e w4 ⟨rfl, g4⟩
  have G4 := G3.trans g4
  have HW2 := works_any ta ca b tn tc cn cc n d f ys w4 (hf.gr G4) hok (hy.gr G4) hsy
  rw [hwy] at HW2
  have HW2h := Lib.hid HW2
  clear HW2
  have e0' := (g4.cell (lt_cell e0)).trans e0
  have e1' := (g4.cell (lt_cell e1)).trans e1
  go_wp2_with fail
  refine HW2h.out.mono ?_
  rintro e w5 ⟨rfl, g5⟩
  have G5 := G4.trans g5
  have e0'' := (g5.cell (lt_cell e0')).trans e0'
  have e1'' := (g5.cell (lt_cell e1')).trans e1'
  clear e0 e1 e0' e1' c0 c1 g3 g4 g5 G3 G4 HWh HW2h hcon h2
  have hI := planner_new (tc := tc) (cc := cc) (d := d) (bu := bu) (hf.gr G5) (hy.gr G5)
  have hs1 : ((w5.alloc (.map #[] 0)).alloc (.cells #[.slice ta tn tc, .slice ca cn cc, .slice b n d, .int .i64 bu, .map (some w5.heap.size)] 77)).heap.size = w5.heap.size + 2 := by simp
  have g7 := (Gr.alloc w5 (.map #[] 0)).allocR (.cells #[.slice ta tn tc, .slice ca cn cc, .slice b n d, .int .i64 bu, .map (some w5.heap.size)] 77)
  obtain ⟨W1, hW1⟩ : ∃ W1, (w5.alloc (.map #[] 0)).alloc (.cells #[.slice ta tn tc, .slice ca cn cc, .slice b n d, .int .i64 bu, .map (some w5.heap.size)] 77) = W1 := ⟨_, rfl⟩
  rw [hW1] at hI hs1 g7
  have hx1 := hx.gr (G5.trans g7)
  have HBE := Lib.hid (best_any _ (H (w5.heap.size + 1) w5.heap.size) (gap xs ys) (fun _ => False) xs W1 a c (Nat.le_refl _) hsx hI hx1 (fun _ h => h.elim))
  have HS1 := Lib.hid hs1
  have hmW : w5.heap.size < W1.heap.size := by omega
  clear hs1
  go_wp2_with fail
  refine HBE.out.mono ?_
  rintro e w8 ⟨v, rfl, ⟨ra, rk, rc, rfl, hri, hr3⟩, hI8, hO8⟩
  dsimp only
  have hGW : ∀ w', Only (fun b => b = w5.heap.size ∨ W1.heap.size ≤ b) W1 w' → Gr w w' := fun w' h => (((G5.trans g7).only _).trans h).gr (fun i hi e => by have := G5.size; have := g7.size; omega)
  clear hW1 e0'' e1'' HBE
  cases hbi : (bestV f ys bu xs).is with
  | false =>
    have hp := HP1.out hbi
    have HPP := Lib.hid hp
    clear hp HP1 HP2
    go_wp2_with fail
    go_ret2
    refine ⟨none, 0, 0, by rw [HPP.out.1]; rfl, by rw [HPP.out.2]; exact RowsAt.nil _, hGW _ (hO8.mono' (fun i e => .inl e))⟩
  | true =>
    have hp := HP2.out hbi
    have HPP := Lib.hid hp
    have hR0 : PlanR ⟨w5.heap.size + 1, w5.heap.size, ta, tn, tc, ca, cn, cc, b, d, n, f, ys, bu⟩ W1 xs xs [] (.slice a n c) (.slice none 0 0) w8 :=
      ⟨hO8.mono' (fun i e => .inl e), hI8.memo, OutR.nil _ _, ⟨a, c, rfl, hx1.only hO8 hI.noc, fun ad e => by
        cases e
        obtain ⟨_, e, hl, _⟩ := hx1.at hn1
        cases e
        exact .inl hl⟩, hsx, hbi, rfl⟩
    have HBI := Lib.hid hbi
    clear hp HP1 HP2 hbi hri hr3 hI8 hO8
    go_wp2_with fail
    go_loopw [12, 8] (fun sv v wr => ∃ cur done, PlanR ⟨w5.heap.size + 1, w5.heap.size, ta, tn, tc, ca, cn, cc, b, d, n, f, ys, bu⟩ W1 xs cur done sv v wr) (fun _ v _ => 18 - sliceLen v)
    case atStart => exact ⟨xs, [], hR0⟩
    case round =>
      obtain ⟨cur, done, hR⟩ := hrel
      obtain ⟨hl1, hl2⟩ := hR.len (H _ _) hsx
      have hIr := hR.inv hI
      have hyr : Ints wr b n ys := hIr.ito
      have hsa := hR.sa
      dsimp only at hsa
      obtain ⟨sa, sc, rfl, hsI, hsB⟩ := hsa
      have HLEN := Lib.hid hl1
      clear hl1
      have hcl : cur.length = ys.length := by rw [hsI.len, hyr.len]
      by_cases hcur : cur = ys
      · have hq1 := equal_any sa b n sc n d cur ys wr hsI hyr
        rw [decide_eq_true hcur] at hq1
        have HEQ := Lib.hid hq1
        clear hq1
        go_wp2_with fail
        refine HEQ.out.mono ?_
        rintro e w9 ⟨rfl, k, rfl⟩
        have hR9 := hR.gr (Gr.drewN wr k)
        obtain ⟨oa, oc, rfl, hrows⟩ := hR9.out.rows (by omega)
        have hdone : done = pathV f ys bu xs := by have := hR.tot; rw [hcur, pathV_end, List.append_nil] at this; exact this
        have HDN := Lib.hid hdone
        clear hdone
        go_wp2_with fail
        go_ret2
        refine ⟨oa, done.length, oc, by rw [HPP.out.1]; rfl, by rw [HPP.out.2, ← HDN.out]; exact hrows, hGW _ hR9.on⟩
      · have hq1 := equal_any sa b n sc n d cur ys wr hsI hyr
        rw [decide_eq_false hcur] at hq1
        have HEQ := Lib.hid hq1
        have HCUR := Lib.hid hcur
        clear hq1 hcur
        go_wp2_with fail
        refine HEQ.out.mono ?_
        rintro e w9 ⟨rfl, k, rfl⟩
        have hR9 := hR.gr (Gr.drewN wr k)
        have HBE := Lib.hid (best_any _ (H (w5.heap.size + 1) w5.heap.size) (gap cur ys) (fun _ => False) cur (wr.drewN k) sa sc (Nat.le_refl _) hR.st (hR9.inv hI) (hsI.gr (Gr.drewN wr k)) (fun _ h => h.elim))
        go_wp2_with fail
        refine HBE.out.mono ?_
        rintro e w10 ⟨v10, rfl, ⟨na, nk, nc, rfl, hni, hn3⟩, hI10, hO10⟩
        dsimp only at hni ⊢
        have hR10 := hR9.call hI hO10 hI10
        obtain ⟨hm1, hm2, hm3⟩ := bestV_next hcl HCUR.out hR.is
        have hbt := (enum_between hm1).1
        have hsn : StOk f (bestV f ys bu cur).nxt := hR.st.btw hsy hbt
        have hnk : nk = n := by rw [← hni.len, hbt.len, hsI.len]
        subst hnk
        obtain ⟨na, rfl, _, _⟩ := hni.at hn1
        have hna3 := (hn3 na rfl).2
        have htot : Hid ((done ++ [(bestV f ys bu cur).nxt]) ++ pathV f ys bu (bestV f ys bu cur).nxt = pathV f ys bu xs) := Lib.hid (by
          have := hR.tot
          dsimp only at this
          rw [pathV_step hcl HCUR.out hR.is] at this
          rw [← this]; simp)
        have hpl : 1 ≤ (pathV f ys bu cur).length := by rw [pathV_step hcl HCUR.out hR.is]; simp
        have HCL := Lib.hid (clone_any (some na) nk nc (bestV f ys bu cur).nxt w10 hni hn1 (by omega))
        have HM3 := Lib.hid hm3
        have HSN := Lib.hid hsn
        clear hR9 hR hIr hsI hyr hcl hI10 hO10 HBE HEQ hm1 hm2 hm3 hbt hsn hn3 hsB
        generalize (bestV f ys bu cur).nxt = nx at *
        go_wp2_with fail
        refine HCL.out.mono ?_
        rintro e w11 ⟨g, gc, rfl, hge, hgi, hg11, hg3⟩
        rw [hni.len] at hgi ⊢
        have hR11 := hR10.gr (hg11.allocR (.cells #[.slice (some ⟨g, 0, none⟩) nk gc] 26))
        have hna' := hni.gr (hg11.allocR (.cells #[.slice (some ⟨g, 0, none⟩) nk gc] 26))
        have hna3' := hna3.gr (hg11.allocR (.cells #[.slice (some ⟨g, 0, none⟩) nk gc] 26))
        have hgi' := hgi.gr (Gr.alloc w11 (.cells #[.slice (some ⟨g, 0, none⟩) nk gc] 26))
        have hg3' := hg3.gr (Gr.alloc w11 (.cells #[.slice (some ⟨g, 0, none⟩) nk gc] 26))
        obtain ⟨ov, hown, hrw⟩ := hR11.out
        have HOWN := Lib.hid hown
        have HRW := Lib.hid hrw
        have hszW := hR11.on.size
        obtain ⟨i0, hi, hz0, hz1, hz2⟩ := info_parts Try.info26
        have hc3 : done.length + 1 ≤ maxLen := by unfold maxLen; omega
        have hc4 : (done.length + 1) * 24 ≤ 140737488355328 := by omega
        clear hown hrw hR10 hni hna3 hgi hg3 HCL
        go_wp2_with (at_builtin; refine wpList_append_own _ rfl _ _ 22 rfl W1.heap.size 26 i0 (.slice none 0 0) 1 24 Try.underlying22 hi hz0 hz1 hz2 rfl (by decide) _ _ _ rfl HOWN.out ⟨w11.heap.size, 0, none⟩ 1 1 [.slice (some ⟨g, 0, none⟩) nk gc] rfl rfl (one_cell _ _ _) (one_one _ _ _) hc3 hc4 hszW ?_; intro v' w12 hown' hgrow _)
        have hR12 := hR11.push (nc := nc) HOWN.out HRW.out hmW hna' hna3' hgi' hg3' hown' hgrow HSN.out HM3.out htot.out
        have hl12 := Lib.hid (hR12.len (H _ _) hsx).1
        clear hown' hgrow HOWN HRW hR11 hna' hna3' hgi' hg3'
        go_wp2_with fail
        go_roundw
        case rel => exact ⟨nx, done ++ [nx], hR12⟩
        case measure =>
          have h1 := HLEN.out
          have h2 := hl12.out
          simp at h2
          simp
          omega
end Go.Proofs.Ytlilojpnhmfnaaa
