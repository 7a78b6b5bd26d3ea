/- The closure of states: one step. -/
import Derived.Test.YtlilojpnhmfnaaaNextC
namespace Go.Proofs.Ytlilojpnhmfnaaa
open Go.RowKit

set_option maxHeartbeats 1000000 in
theorem next_step (q : NP) (Y : Nat → Prop) (J : List (List Int) → World → Prop) (Jx : World → Prop) (all : List (List Int)) (H : NHyp q Y J Jx all) (k : Nat) (pre : List Int) (done rest : List (List Int)) (W : World)
    (ih : ∀ (v : Int) (done rest : List (List Int)) (W : World), (0 ≤ v ∧ v ≤ ((q.f.times[pre.length]?.getD []).length : Int)) → NEnv q W → Buf q W (pre ++ [v]) → J done W → all = done ++ (enum q.f q.lo q.hi k (pre ++ [v]) ++ rest) →
      Calls Try.prog 91 #[.slice (some ⟨q.p, 0, none⟩) (pre.length + 1) q.n, .pointer (some ⟨q.bfr, 0, none⟩), .pointer (some ⟨q.bfl, 0, none⟩), .pointer (some ⟨q.by_, 0, none⟩), .pointer (some ⟨q.bto, 0, none⟩), .pointer (some ⟨q.bn, 0, none⟩)] W
        (NPost q J Jx (pre ++ [v]) (done ++ enum q.f q.lo q.hi k (pre ++ [v]))))
    (hl : pre.length + (k + 1) = q.n) (hE : NEnv q W) (hB : Buf q W pre) (hJ : J done W) (hall : all = done ++ (enum q.f q.lo q.hi (k + 1) pre ++ rest)) :
    Calls Try.prog 91 #[.slice (some ⟨q.p, 0, none⟩) pre.length q.n, .pointer (some ⟨q.bfr, 0, none⟩), .pointer (some ⟨q.bfl, 0, none⟩), .pointer (some ⟨q.by_, 0, none⟩), .pointer (some ⟨q.bto, 0, none⟩), .pointer (some ⟨q.bn, 0, none⟩)] W
      (NPost q J Jx pre (done ++ enum q.f q.lo q.hi (k + 1) pre)) := by
  have hn6 : q.n ≤ 6 := by have := H.ok.n6; have := H.nt; omega
  have hcfr := hE.cfr
  have hlt : pre.length < q.n := by omega
  have hne : ((pre.length : Int) == (q.n : Int)) = false := by rw [beq_eq_false_iff_ne]; omega
  obtain ⟨fa, hfa, hfb, hfc⟩ := hE.ilo.at hlt
  have hlo0 := H.lo0 _ hlt
  have hhi1 := H.hi1 _ hlt
  have hrow := H.ok.row pre.length (by rw [← H.nt]; exact hlt)
  rw [hfa] at hcfr
  have IH := Lib.hid ih
  have HALL := Lib.hid hall
  have HL := Lib.hid hl
  clear ih hall hl
  go_enter Try.func91, Try.ntmps91
  go_wp2_with fail
  go_loopw [9] (fun x wr => ∃ i : Nat, i ≤ (q.hi[pre.length]?.getD 0 - q.lo[pre.length]?.getD 0 + 1).toNat ∧ x = .int .i64 (q.lo[pre.length]?.getD 0 + (i : Int)) ∧ Hid (J (done ++ enumTo q.f q.lo q.hi k pre i) wr) ∧ NEnv q wr ∧ Buf q wr pre) (fun x _ => (q.hi[pre.length]?.getD 0 + 1 - intOf x).toNat)
  case atStart => exact ⟨0, Nat.zero_le _, by simp, Lib.hid (by simpa [enumTo] using hJ), hE, hB⟩
  case round =>
    obtain ⟨i, hi, rfl, hJr, hEr, hBr⟩ := hrel
    have hcto := hEr.cto
    obtain ⟨ha, hha, hhb, hhc⟩ := hEr.ihi.at hlt
    by_cases hle : q.lo[pre.length]?.getD 0 + (i : Int) ≤ q.hi[pre.length]?.getD 0
    · have hM : i < (q.hi[pre.length]?.getD 0 - q.lo[pre.length]?.getD 0 + 1).toNat := by omega
      have hsp := Lib.hid (enum_split q.f q.lo q.hi k pre i hM)
      have hsu := Lib.hid (enumTo_succ q.f q.lo q.hi k pre i)
      rw [hha] at hcto
      generalize hv : q.lo[pre.length]?.getD 0 + (i : Int) = v at *
      have hv0 : 0 ≤ v ∧ v ≤ ((q.f.times[pre.length]?.getD []).length : Int) := by omega
      have HV := Lib.hid hv
      clear hv
      go_wp2_with fail
      refine (wpIn_wide (n := 0)).1 ?_
      refine region_inv (F := Fence.wide) (by kernel_rfl) (by rfl) (by decide) (fun _ => trivial)
        (fun done' u W' => Kn [some (.func (.func 91) #[] #[.pointer (some ⟨q.bfr, 0, none⟩), .pointer (some ⟨q.bfl, 0, none⟩), .pointer (some ⟨q.by_, 0, none⟩), .pointer (some ⟨q.bto, 0, none⟩), .pointer (some ⟨q.bn, 0, none⟩)]), some (.slice (some ⟨q.p, 0, none⟩) pre.length q.n), some (.int .i64 v), none, some (.slice (some ⟨q.p, 0, none⟩) (pre.length + 1) q.n), none, none] done' u ∧
          R7 q J Jx pre (done ++ enumTo q.f q.lo q.hi k pre (i + 1)) wr v done' u W')
        (fun u => ⟨Kn.start _ _, ⟨fun _ => (Gr.drew wr).only _, fun _ => Gr.drew wr, (fun _ h => by cases h), (fun _ h => by cases h), (fun h => by cases h)⟩⟩) ⟨?_, ?_, ?_, ?_, ?_, ?_, ?_, trivial⟩ ?_
      · rintro u done' W' hd hanc hclo ⟨hk, hR⟩
        have hc := (H.env _ _ hEr ((hR.only (not_done hclo hd 5 rfl (by kernel_rfl))).mono (fun _ _ h => .inr h))).cn_
        refine op_plain (ro := none) rfl (fun c h => by cases h) fun K hK => ?_
        simp only [fillL, List.setIfInBounds_toArray, List.set_cons_zero, List.set_cons_succ, Nat.zero_add, Nat.reduceAdd] at hK ⊢
        go_simp
        exact hK _ _ ⟨hk.new rfl, hR.quiet (by decide) _⟩
      · rintro u done' W' hd hanc hclo ⟨hk, hR⟩
        refine op_plain (ro := none) rfl (fun c h => by cases h) fun K hK => ?_
        simp only [fillL, List.setIfInBounds_toArray, List.set_cons_zero, List.set_cons_succ, Nat.zero_add, Nat.reduceAdd] at hK ⊢
        go_simp
        exact hK _ _ ⟨hk.new rfl, hR.quiet (by decide) _⟩
      · rintro u done' W' hd hanc hclo ⟨hk, hR⟩
        refine op_plain (ro := none) rfl (fun c h => by cases h) fun K hK => ?_
        simp only [fillL, List.setIfInBounds_toArray, List.set_cons_zero, List.set_cons_succ, Nat.zero_add, Nat.reduceAdd] at hK ⊢
        go_simp
        exact hK _ _ ⟨hk.new rfl, hR.quiet (by decide) _⟩
      · rintro u done' W' hd hanc hclo ⟨hk, hR⟩
        have e2 := hk.get 2 rfl (hanc 2 (mem_of (by kernel_rfl)))
        have h4 : done' 4 = false := not_done hclo hd 4 rfl (by kernel_rfl)
        have h5 : done' 5 = false := not_done hclo hd 5 rfl (by kernel_rfl)
        have hg := hR.gr h4
        refine op_plain (ro := none) rfl (fun c h => by cases h) fun K hK => ?_
        simp only [fillL, List.setIfInBounds_toArray, List.set_cons_zero, List.set_cons_succ, Nat.zero_add, Nat.reduceAdd, e2] at hK ⊢
        go_simp
        refine hK _ _ ⟨hk.skip rfl, ⟨fun _ => (hg.allocR _).only _, fun _ => hg.allocR _, fun _ _ => ⟨_, rfl, hg.size, ?_⟩, (fun _ h => by rw [upd_ne (by decide), h4] at h; cases h), (fun h => by rw [upd_ne (by decide), h5] at h; cases h)⟩⟩
        simp
      · rintro u done' W' hd hanc hclo ⟨hk, hR⟩
        have e1 := hk.get 1 rfl (hanc 1 (mem_of (by kernel_rfl)))
        have h5 : done' 5 = false := not_done hclo hd 5 rfl (by kernel_rfl)
        have hg := hR.gr hd
        obtain ⟨g, e3, hge, hgc⟩ := hR.one hd (hanc 3 (mem_of (by kernel_rfl)))
        obtain ⟨i0, hi0, hz0, hz1, hz2⟩ := info_parts Try.info3
        have hbW : Buf q W' pre := by
          obtain ⟨rst, hbk, hrl⟩ := hBr
          exact ⟨rst, (hg.below.block _ hEr.pl).trans hbk, hrl⟩
        obtain ⟨cur, hcb, hcs, hce⟩ := hbW.push (v := v) hlt
        refine op_plain (ro := none) rfl (fun c h => by cases h) fun K hK => ?_
        simp only [fillL, List.setIfInBounds_toArray, List.set_cons_zero, List.set_cons_succ, Nat.zero_add, Nat.reduceAdd, e1, e3] at hK ⊢
        refine wp_append_room (P := Try.prog) _ _ 26 3 i0 rfl Try.underlying26 hi0 q.p pre.length q.n cur rfl hcb ⟨g, 0, none⟩ 1 1 [.int .i64 v] rfl (by rw [hz1]; rfl) ?_ (by simp [Value.oneCell']) (by omega) (by rw [hz1]; simp; omega) ?_
        · intro j u hj
          cases j with
          | zero => simp at hj; subst hj; exact hgc
          | succ j => simp at hj
        · rw [hz1]
          simp only [List.length_singleton]
          rw [hce]
          have hs := setRow_only (arr := ((pre ++ [v]).map (Value.int .i64) ++ cur.toList.drop (pre.length + 1)).toArray) hcb
          refine hK _ _ ⟨hk.new rfl, ⟨fun _ => (hg.only _).trans hs.1, (fun h => by rw [upd_self] at h; cases h), (fun h => by rw [upd_self] at h; cases h), fun _ _ => ⟨_, hs.2, ?_⟩, (fun h => by rw [upd_ne (by decide), h5] at h; cases h)⟩⟩
          simp [hcs]; omega
      · rintro u done' W' hd hanc hclo ⟨hk, hR⟩
        have e0 := hk.get 0 rfl (hanc 0 (mem_of (by kernel_rfl)))
        have e4 := hk.get 4 rfl (hanc 4 (mem_of (by kernel_rfl)))
        have ho := hR.only hd
        have hb := hR.buf hd (hanc 4 (mem_of (by kernel_rfl)))
        have hEn := H.env _ _ hEr (ho.mono (fun _ _ h => .inr h))
        have hJn := H.hJ _ _ _ hJr.out ho
        obtain ⟨r, hr⟩ := hsp.out
        have hcon := IH.out v (done ++ enumTo q.f q.lo q.hi k pre i) (r ++ rest) W' hv0 hEn hb hJn (by rw [HALL.out, hr]; simp)
        have HCON := Lib.hid hcon
        have h6 : done' 6 = false := not_done hclo hd 6 rfl (by kernel_rfl)
        clear hcon hr
        refine op_plain (ro := none) rfl (fun c h => by cases h) fun K hK => ?_
        simp only [fillL, List.setIfInBounds_toArray, List.set_cons_zero, List.set_cons_succ, Nat.zero_add, Nat.reduceAdd, e0, e4] at hK ⊢
        go_simp
        refine HCON.out.mono ?_
        rintro e w2 hpost
        have hout : ∃ b, e = .returned (.bool b) ∧ StepOut q J Jx pre (done ++ enumTo q.f q.lo q.hi k pre (i + 1)) w2 b := by
          rcases hpost with ⟨h, hj, he, hb⟩ | ⟨h, hx⟩
          · exact ⟨true, h, .inl ⟨rfl, by rw [hsu.out, ← List.append_assoc]; exact hj, he, hb.shorten⟩⟩
          · exact ⟨false, h, .inr ⟨rfl, hx⟩⟩
        obtain ⟨b, rfl, hso⟩ := hout
        exact hK _ _ ⟨hk.skip rfl, ⟨(fun h => by rw [upd_self] at h; cases h), (fun h => by rw [upd_ne (by decide), hanc 4 (mem_of (by kernel_rfl))] at h; cases h), (fun h => by rw [upd_ne (by decide), hanc 4 (mem_of (by kernel_rfl))] at h; cases h), (fun h => by rw [upd_self] at h; cases h),
          fun _ => ⟨b, rfl, hso, fun h => by rw [upd_ne (by decide), h6] at h; cases h⟩⟩⟩
      · rintro u done' W' hd hanc hclo ⟨hk, hR⟩
        obtain ⟨b, e5, hso, _⟩ := hR.fin (hanc 5 (mem_of (by kernel_rfl)))
        refine op_plain (ro := none) rfl (fun c h => by cases h) fun K hK => ?_
        simp only [fillL, List.setIfInBounds_toArray, List.set_cons_zero, List.set_cons_succ, Nat.zero_add, Nat.reduceAdd, e5] at hK ⊢
        go_simp
        exact hK _ _ ⟨hk.skip rfl, ⟨(fun h => by rw [upd_ne (by decide), hanc 5 (mem_of (by kernel_rfl))] at h; cases h), (fun h => by rw [upd_ne (by decide), hanc 4 (mem_of (by kernel_rfl))] at h; cases h), (fun h => by rw [upd_ne (by decide), hanc 4 (mem_of (by kernel_rfl))] at h; cases h), (fun h => by rw [upd_ne (by decide), hanc 5 (mem_of (by kernel_rfl))] at h; cases h),
          fun _ => ⟨b, by simpa using e5, hso, fun _ => by simp⟩⟩⟩
      · rintro u W' ⟨done', hdn, hk, hR⟩
        obtain ⟨b, e5, hso, h6⟩ := hR.fin (hdn 5 (by decide))
        have e6 := h6 (hdn 6 (by decide))
        simp only [fillL, List.setIfInBounds_toArray, List.set_cons_zero, List.set_cons_succ, Nat.zero_add, Nat.reduceAdd, e6]
        rcases hso with ⟨rfl, hj, he, hb⟩ | ⟨rfl, hx⟩
        · have HJ := Lib.hid hj
          clear hj
          go_wp2
          go_roundw
          case rel => exact ⟨i + 1, by omega, by rw [← HV.out]; go_num, HJ, he, hb⟩
          case measure => simp [intOf]; omega
        · go_wp2
          go_ret
          exact .inr ⟨rfl, hx⟩
    · have hM : i = (q.hi[pre.length]?.getD 0 - q.lo[pre.length]?.getD 0 + 1).toNat := by omega
      have hfin : Hid (enum q.f q.lo q.hi (k + 1) pre = enumTo q.f q.lo q.hi k pre i) := Lib.hid (by rw [hM]; rfl)
      have HM := Lib.hid hM
      clear hM
      rw [hha] at hcto
      go_wp2_with fail
      go_ret
      exact .inl ⟨rfl, by rw [hfin.out]; exact hJr.out, hEr, hBr⟩
end Go.Proofs.Ytlilojpnhmfnaaa
