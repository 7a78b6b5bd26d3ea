/- Least: a round of its closure's loop. -/
import Derived.Test.YtlilojpnhmfnaaaLeastA
import Derived.WalkLawsBesides
namespace Go.Proofs.Ytlilojpnhmfnaaa
open Go.RowKit
attribute [local go_sem] Oper.semAt_some

set_option maxRecDepth 100000 in
set_option maxHeartbeats 4000000 in
theorem least_round (q : LP) (H : LHyp q) (s x : List Int) (W w : World) (a : Option Addr) (c kb bx D cx L : Nat) (ad : Addr) (pre : List (List Int)) {tt0 tt6 tt8 tt9 tt12 tt13 tt14 tt15 tt16 tt17 tt18 tt19 tt20 tt21 tt22 tt23 tt24 tt25 tt26 tt27 tt28 tt29 tt30 tt31 tt32 tt33 tt34 tt35 tt36 tt37 tt38 tt39 tt40 tt41 tt42 tt43 tt44 tt45 tt46 tt47 tt48 tt49 tt50 tt51 tt52 tt53 tt54 tt55 tt56 : Value} (body : Code) (hbo : (Try.f56.body.bind firstBody) = some body)
    (hI : LInv q W) (hs : Ints W a q.n s) (hst : StOk q.f s) (hn : LNum q W kb bx D) (hB : LI q W s a c kb bx pre w) (hx : Ints w (some ad) q.n x) (hsx : StOk q.f x) (hbt : Btw s q.to x)
    (ih : 0 < dur q.f.times s x → ∀ (w : World), LInv q w → Ints w (some ad) q.n x → Calls Try.prog 56 #[.slice (some ad) q.n cx, .pointer (some ⟨q.bto, 0, none⟩), .pointer (some ⟨q.bl, 0, none⟩), .pointer (some ⟨q.bf, 0, none⟩), .pointer (some ⟨q.bb, 0, none⟩)] w (LPost q w x)) :
    body.wpIn (Fence.wide.inRound L) 0 Try.prog (roundQ (fun b => b = q.m ∨ b = bx) (LI q W s a c kb bx) (fun _ _ => False) (pre ++ [x]) w) { tmps := #[tt0, .pointer (some ⟨q.bto, 0, none⟩), .pointer (some ⟨q.bl, 0, none⟩), .pointer (some ⟨q.bf, 0, none⟩), .pointer (some ⟨q.bb, 0, none⟩), .pointer (some ⟨W.heap.size, 0, none⟩), tt6, .pointer (some ⟨kb, 0, none⟩), tt8, tt9, .pointer (some ⟨bx, 0, none⟩), .slice (some ad) q.n cx, tt12, tt13, tt14, tt15, tt16, tt17, tt18, tt19, tt20, tt21, tt22, tt23, tt24, tt25, tt26, tt27, tt28, tt29, tt30, tt31, tt32, tt33, tt34, tt35, tt36, tt37, tt38, tt39, tt40, tt41, tt42, tt43, tt44, tt45, tt46, tt47, tt48, tt49, tt50, tt51, tt52, tt53, tt54, tt55, tt56], defers := [] } w := by
  have hIw := hB.inv hI
  have hsw := hs.only hB.on hI.noc
  have b5 := hB.loc.at 0 rfl
  have c0 := hIw.c0
  have c1 := hIw.c1
  have hab : aboveV x s = true := aboveV_true (n := x.length) rfl (fun j hj => hbt.ge j (by rw [← hbt.len]; exact hj))
  have hdb := dur_bd H.ok hst hsx hab
  have HD := Lib.hid (duration_any q.ta q.ca a (some ad) q.tn q.tc q.cn q.cc q.n c cx q.f s x w hIw.fl H.ok hsw hx (fun c hc => (hst.ver c hc).1) hsx (fun c hc => hbt.ge c (by rw [hst.len]; exact hc)))
  simp only [Try.f56, Option.bind, firstBody] at hbo
  injection hbo with hbo
  subst hbo
  gi_wp2_with fail
  refine ⟨trivial, rfl, ?_⟩
  refine (CallsIn.inRound L (callsIn_wide.2 HD.out)).mono ?_
  rintro e w1 ⟨rfl, hg⟩
  have hB1 := hB.gr hn hg
  have hx1 := hx.gr hg
  have hO1 : Only (fun b => b = q.m ∨ b = bx) w w1 := hg.only _
  have hfo : Hid (foldLe q s (pre ++ [x]) = if 0 < dur q.f.times s x ∧ dur q.f.times s x < foldLe q s pre then min (foldLe q s pre) (max (dur q.f.times s x) (leastV q.f q.to x)) else foldLe q s pre) := Lib.hid (by unfold foldLe; rw [List.foldl_append]; rfl)
  have IH0 := Lib.hid ih
  clear ih HD b5 c0 c1
  generalize hdn : dur q.f.times s x = dn at *
  have HDN := Lib.hid hdn
  have hy := hB1.best.at 0 rfl
  generalize hpp : foldLe q s pre = p at *
  have HPP := Lib.hid hpp
  clear hdn hpp
  dsimp only at hy
  by_cases h1 : 0 < dn
  · by_cases h2 : dn < p
    · have IH := Lib.hid (IH0.out h1)
      have hfo2 : Hid (foldLe q s (pre ++ [x]) = min p (max dn (leastV q.f q.to x))) := Lib.hid (by rw [hfo.out, if_pos ⟨h1, h2⟩])
      clear hfo IH0
      generalize hlx : leastV q.f q.to x = lx at *
      have HLX := Lib.hid hlx
      have hfo := hfo2
      clear hlx hfo2
      gi_wp2_with fail
      refine region_inv (F := Fence.wide.inRound L) (by kernel_rfl) (by rfl) (by decide) (fun _ => trivial)
        (fun done' u W' => Kn [some (.int .i64 p), some (.int .i64 dn), some (.func (.func 56) #[] #[.pointer (some ⟨q.bto, 0, none⟩), .pointer (some ⟨q.bl, 0, none⟩), .pointer (some ⟨q.bf, 0, none⟩), .pointer (some ⟨q.bb, 0, none⟩)]), some (.slice (some ad) q.n cx), some (.int .i64 lx), some (.int .i64 (max dn lx)), some (.int .i64 (min p (max dn lx))), none] done' u ∧ ((done' 7 = false → LI q W s a c kb bx pre W' ∧ Only (fun b => b = q.m ∨ b = bx) w W' ∧ Ints W' (some ad) q.n x) ∧ (done' 7 = true → LI q W s a c kb bx (pre ++ [x]) W' ∧ Only (fun b => b = q.m ∨ b = bx) w W')))
        (fun u => ⟨Kn.start _ _, ⟨fun _ => ⟨hB1.gr hn (Gr.drew w1), hO1.thenGr (Gr.drew w1), hx1.gr (Gr.drew w1)⟩, (fun h => by cases h)⟩⟩) ⟨?_, ?_, ?_, ?_, ?_, ?_, ?_, ?_, trivial⟩ ?_
      · rintro u done' W' hd hanc hclo ⟨hk, hR⟩
        have hL := hR.1 (not_done hclo hd 7 rfl (by kernel_rfl))
        have y := hL.1.best.at 0 rfl
        rw [HPP.out] at y
        refine op_plain (ro := some L) rfl (fun c h => by cases h) fun K hK => ?_
        simp only [fillL, List.setIfInBounds_toArray, List.set_cons_zero, List.set_cons_succ, Nat.zero_add, Nat.reduceAdd] at hK ⊢
        go_simp
        exact hK _ _ ⟨hk.new rfl, ⟨fun h => hR.1 (by rw [upd_ne (by decide)] at h; exact h), fun h => hR.2 (by rw [upd_ne (by decide)] at h; exact h)⟩⟩
      · rintro u done' W' hd hanc hclo ⟨hk, hR⟩
        refine op_plain (ro := some L) rfl (fun c h => by cases h) fun K hK => ?_
        simp only [fillL, List.setIfInBounds_toArray, List.set_cons_zero, List.set_cons_succ, Nat.zero_add, Nat.reduceAdd] at hK ⊢
        go_simp
        exact hK _ _ ⟨hk.new rfl, ⟨fun h => hR.1 (by rw [upd_ne (by decide)] at h; exact h), fun h => hR.2 (by rw [upd_ne (by decide)] at h; exact h)⟩⟩
      · rintro u done' W' hd hanc hclo ⟨hk, hR⟩
        have hL := hR.1 (not_done hclo hd 7 rfl (by kernel_rfl))
        have y := (hL.1.inv hI).c4
        refine op_plain (ro := some L) rfl (fun c h => by cases h) fun K hK => ?_
        simp only [fillL, List.setIfInBounds_toArray, List.set_cons_zero, List.set_cons_succ, Nat.zero_add, Nat.reduceAdd] at hK ⊢
        go_simp
        exact hK _ _ ⟨hk.new rfl, ⟨fun h => hR.1 (by rw [upd_ne (by decide)] at h; exact h), fun h => hR.2 (by rw [upd_ne (by decide)] at h; exact h)⟩⟩
      · rintro u done' W' hd hanc hclo ⟨hk, hR⟩
        refine op_plain (ro := some L) rfl (fun c h => by cases h) fun K hK => ?_
        simp only [fillL, List.setIfInBounds_toArray, List.set_cons_zero, List.set_cons_succ, Nat.zero_add, Nat.reduceAdd] at hK ⊢
        go_simp
        exact hK _ _ ⟨hk.new rfl, ⟨fun h => hR.1 (by rw [upd_ne (by decide)] at h; exact h), fun h => hR.2 (by rw [upd_ne (by decide)] at h; exact h)⟩⟩
      · rintro u done' W' hd hanc hclo ⟨hk, hR⟩
        have e2 := hk.get 2 rfl (hanc 2 (mem_of (by kernel_rfl)))
        have e3 := hk.get 3 rfl (hanc 3 (mem_of (by kernel_rfl)))
        have hL := hR.1 (not_done hclo hd 7 rfl (by kernel_rfl))
        have h7 := not_done hclo hd 7 rfl (by kernel_rfl)
        have HCON := Lib.hid (IH.out W' (hL.1.inv hI) hL.2.2)
        refine op_plain (ro := some L) rfl (fun c h => by cases h) fun K hK => ?_
        simp only [fillL, List.setIfInBounds_toArray, List.set_cons_zero, List.set_cons_succ, Nat.zero_add, Nat.reduceAdd, e2, e3] at hK ⊢
        go_simp
        refine HCON.out.mono ?_
        rintro e w2 ⟨rfl, hI2, hO2⟩
        rw [HLX.out]
        have hnm : NoCells (fun b => b = q.m) W' := fun b cs t fr hs hb => (hL.1.inv hI).noc b cs t fr (.inl hs) hb
        exact hK _ _ ⟨hk.new rfl, ⟨fun _ => ⟨hL.1.call hI hO2 hI2, hL.2.1.trans (hO2.mono' (fun i e => .inl e)), hL.2.2.only hO2 hnm⟩, fun h => by rw [upd_ne (by decide), h7] at h; cases h⟩⟩
      · rintro u done' W' hd hanc hclo ⟨hk, hR⟩
        have e1 := hk.get 1 rfl (hanc 1 (mem_of (by kernel_rfl)))
        have e4 := hk.get 4 rfl (hanc 4 (mem_of (by kernel_rfl)))
        refine op_plain (ro := some L) rfl (fun c h => by cases h) fun K hK => ?_
        simp only [fillL, List.setIfInBounds_toArray, List.set_cons_zero, List.set_cons_succ, Nat.zero_add, Nat.reduceAdd, e1, e4] at hK ⊢
        go_simp
        rw [show (if dn < lx then lx else dn) = max dn lx from by split <;> omega]
        exact hK _ _ ⟨hk.new rfl, ⟨fun h => hR.1 (by rw [upd_ne (by decide)] at h; exact h), fun h => hR.2 (by rw [upd_ne (by decide)] at h; exact h)⟩⟩
      · rintro u done' W' hd hanc hclo ⟨hk, hR⟩
        have e0 := hk.get 0 rfl (hanc 0 (mem_of (by kernel_rfl)))
        have e5 := hk.get 5 rfl (hanc 5 (mem_of (by kernel_rfl)))
        refine op_plain (ro := some L) rfl (fun c h => by cases h) fun K hK => ?_
        simp only [fillL, List.setIfInBounds_toArray, List.set_cons_zero, List.set_cons_succ, Nat.zero_add, Nat.reduceAdd, e0, e5] at hK ⊢
        go_simp
        rw [show (if max dn lx < p then max dn lx else p) = min p (max dn lx) from by split <;> omega]
        exact hK _ _ ⟨hk.new rfl, ⟨fun h => hR.1 (by rw [upd_ne (by decide)] at h; exact h), fun h => hR.2 (by rw [upd_ne (by decide)] at h; exact h)⟩⟩
      · rintro u done' W' hd hanc hclo ⟨hk, hR⟩
        have e6 := hk.get 6 rfl (hanc 6 (mem_of (by kernel_rfl)))
        have hL := hR.1 hd
        have y := hL.1.best.at 0 rfl
        have z := hL.1.best.fr 0 rfl
        refine op_plain (ro := some L) rfl (fun c h => by cases h) fun K hK => ?_
        simp only [fillL, List.setIfInBounds_toArray, List.set_cons_zero, List.set_cons_succ, Nat.zero_add, Nat.reduceAdd, e6] at hK ⊢
        go_simp
        exact hK undef _ ⟨hk.skip rfl, ⟨(fun h => by rw [upd_self] at h; cases h), fun _ => ⟨hL.1.set hn hfo.out, hL.2.1.setCell (.inl (.inr rfl)) _⟩⟩⟩
      · rintro u W' ⟨done', hdn, hk, hR⟩
        have e0 := hk.get 0 rfl (hdn 0 (by decide))
        have e1 := hk.get 1 rfl (hdn 1 (by decide))
        have e2 := hk.get 2 rfl (hdn 2 (by decide))
        have e3 := hk.get 3 rfl (hdn 3 (by decide))
        have e4 := hk.get 4 rfl (hdn 4 (by decide))
        have e5 := hk.get 5 rfl (hdn 5 (by decide))
        have e6 := hk.get 6 rfl (hdn 6 (by decide))
        simp only [fillL, List.setIfInBounds_toArray, List.set_cons_zero, List.set_cons_succ, Nat.zero_add, Nat.reduceAdd, e0, e1, e2, e3, e4, e5, e6]
        have hL := hR.2 (hdn 7 (by decide))
        gi_wp2_with fail
        exact ⟨hL.2, hL.1⟩
    · have hfo2 : Hid (foldLe q s (pre ++ [x]) = p) := Lib.hid (by rw [hfo.out, if_neg (by omega)])
      clear hfo IH0
      gi_wp2_with fail
      exact ⟨hO1, hB1.same (by rw [hfo2.out, HPP.out])⟩
  · have hfo2 : Hid (foldLe q s (pre ++ [x]) = p) := Lib.hid (by rw [hfo.out, if_neg (by omega)])
    clear hfo IH0
    gi_wp2_with fail
    exact ⟨hO1, hB1.same (by rw [hfo2.out, HPP.out])⟩
end Go.Proofs.Ytlilojpnhmfnaaa
