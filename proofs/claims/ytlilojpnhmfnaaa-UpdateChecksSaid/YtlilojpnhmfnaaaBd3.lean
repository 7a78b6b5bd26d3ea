/- Several texts of this claim in one file. (1) The closure of states: one step. (2) The closure of states: one step. (3) The closures of states: all of them. (4) The closures of states: the iterator. (5) Contract: states makes its iterator. (6) A rule for a range over states. (7) Cells of a call's own, as a list; a region with one operation that writes. Nothing of the program is proved here. (8) Cells that are known, as a list, in a world that grows. Nothing of the program is proved here. (9) A map keyed by states: what a lookup and a store do. (10) Contracts: keyOf, cmp.Compare, cmp.Or. (11) Plain words for the planner: the best rest of a plan from a state. No program in sight. (12) The planner: its words, and best where the state is the end, or not below it. (13) The planner: best, up to its memo. (14) The planner: what holds in the loop of best. -/
import Derived.Test.YtlilojpnhmfnaaaBd2
import Derived.Laws.EntriesVeiled
import Derived.RangeFuncBound
import Derived.Shelf.Abstract
import Derived.WideKeyArr
import Derived.MapKept
import Derived.Laws.CopyOwn
import Derived.Outline
import Derived.Deep.QuietTactic
import Derived.BigQuiet
namespace Go.Proofs.Ytlilojpnhmfnaaa
section
open Go.RowKit

/-- what has come of the versions below i -/
def enumTo (f : Fl) (lo hi : List Int) (k : Nat) (pre : List Int) (i : Nat) : List (List Int) := (List.range i).flatMap fun (j : Nat) => enum f lo hi k (pre ++ [lo[pre.length]?.getD 0 + (j : Int)])

theorem enumTo_succ (f : Fl) (lo hi : List Int) (k : Nat) (pre : List Int) (i : Nat) : enumTo f lo hi k pre (i + 1) = enumTo f lo hi k pre i ++ enum f lo hi k (pre ++ [lo[pre.length]?.getD 0 + (i : Int)]) := by
  simp [enumTo, List.range_succ]
theorem enum_split (f : Fl) (lo hi : List Int) (k : Nat) (pre : List Int) (i : Nat) (h : i < (hi[pre.length]?.getD 0 - lo[pre.length]?.getD 0 + 1).toNat) :
    ∃ r, enum f lo hi (k + 1) pre = enumTo f lo hi k pre i ++ (enum f lo hi k (pre ++ [lo[pre.length]?.getD 0 + (i : Int)]) ++ r) := by
  show ∃ r, enumTo f lo hi k pre _ = _
  generalize (hi[pre.length]?.getD 0 - lo[pre.length]?.getD 0 + 1).toNat = m at h
  induction m with
  | zero => omega
  | succ m ih =>
    by_cases e : i = m
    · subst e; exact ⟨[], by rw [enumTo_succ]; simp⟩
    · obtain ⟨r, hr⟩ := ih (by omega)
      exact ⟨r ++ enum f lo hi k (pre ++ [lo[pre.length]?.getD 0 + (m : Int)]), by rw [enumTo_succ, hr]; simp⟩

def StepOut (q : NP) (J : List (List Int) → World → Prop) (Jx : World → Prop) (pre : List Int) (done : List (List Int)) (W' : World) (b : Bool) : Prop :=
  (b = true ∧ J done W' ∧ NEnv q W' ∧ Buf q W' pre) ∨ (b = false ∧ Jx W')

/-- the new number as a slice of its own -/
def StepOne (w W' : World) (v : Int) (x : Value) : Prop := ∃ g, x = .slice (some ⟨g, 0, none⟩) 1 1 ∧ w.heap.size ≤ g ∧ W'.cell? ⟨g, 0, none⟩ = some (.int .i64 v)

structure R7 (q : NP) (J : List (List Int) → World → Prop) (Jx : World → Prop) (pre : List Int) (out : List (List Int)) (wr : World) (v : Int) (done : Nat → Bool) (u : Nat → Value) (W : World) : Prop where
  only : done 5 = false → Only (fun b => b = q.p) wr W
  gr : done 4 = false → Gr wr W
  one : done 4 = false → done 3 = true → StepOne wr W v (u 3)
  buf : done 5 = false → done 4 = true → Buf q W (pre ++ [v])
  fin : done 5 = true → ∃ b, u 5 = .bool b ∧ StepOut q J Jx pre out W b ∧ (done 6 = true → u 6 = .bool (!b))

theorem R7.quiet {q : NP} {J : List (List Int) → World → Prop} {Jx : World → Prop} {pre : List Int} {out : List (List Int)} {wr : World} {v : Int} {done : Nat → Bool} {u : Nat → Value} {W : World} (h : R7 q J Jx pre out wr v done u W) {i : Nat} (hi : i < 3) (x : Value) :
    R7 q J Jx pre out wr v (upd done i) (fun j => if j = i then x else u j) W := by
  have e3 : (3 : Nat) ≠ i := by omega
  have e4 : (4 : Nat) ≠ i := by omega
  have e5 : (5 : Nat) ≠ i := by omega
  have e6 : (6 : Nat) ≠ i := by omega
  refine ⟨?_, ?_, ?_, ?_, ?_⟩ <;> simp only [upd_ne e3, upd_ne e4, upd_ne e5, upd_ne e6, if_neg e3, if_neg e5, if_neg e6]
  · exact h.only
  · exact h.gr
  · exact h.one
  · exact h.buf
  · exact h.fin
end
section
open Go.RowKit

set_option maxHeartbeats 1000000 in
theorem next_step (q : NP) (Y : Nat → Prop) (J : List (List Int) → World → Prop) (Jx : World → Prop) (all : List (List Int)) (H : NHyp q Y J Jx all) (k : Nat) (pre : List Int) (done rest : List (List Int)) (W : World)
    (ih : ∀ (v : Int) (done rest : List (List Int)) (W : World), (0 ≤ v ∧ v ≤ ((q.f.times[pre.length]?.getD []).length : Int)) → NEnv q W → Buf q W (pre ++ [v]) → J done W → all = done ++ (enum q.f q.lo q.hi k (pre ++ [v]) ++ rest) →
      Calls Try.prog 91 #[.slice (some ⟨q.p, 0, none⟩) (pre.length + 1) q.n, .pointer (some ⟨q.bfr, 0, none⟩), .pointer (some ⟨q.bfl, 0, none⟩), .pointer (some ⟨q.by_, 0, none⟩), .pointer (some ⟨q.bto, 0, none⟩), .pointer (some ⟨q.bn, 0, none⟩)] W
        (NPost q J Jx (pre ++ [v]) (done ++ enum q.f q.lo q.hi k (pre ++ [v]))))
    (hl : pre.length + (k + 1) = q.n) (hE : NEnv q W) (hB : Buf q W pre) (hJ : J done W) (hall : all = done ++ (enum q.f q.lo q.hi (k + 1) pre ++ rest)) :
    Calls Try.prog 91 #[.slice (some ⟨q.p, 0, none⟩) pre.length q.n, .pointer (some ⟨q.bfr, 0, none⟩), .pointer (some ⟨q.bfl, 0, none⟩), .pointer (some ⟨q.by_, 0, none⟩), .pointer (some ⟨q.bto, 0, none⟩), .pointer (some ⟨q.bn, 0, none⟩)] W
      (NPost q J Jx pre (done ++ enum q.f q.lo q.hi (k + 1) pre)) := by
  have hn6 : q.n ≤ 6 := by have := H.ok.n6; have := H.nt; omega
  have hcfr := hE.cfr
  have hlt : pre.length < q.n := by omega
  have hne : ((pre.length : Int) == (q.n : Int)) = false := by rw [beq_eq_false_iff_ne]; omega
  obtain ⟨fa, hfa, hfb, hfc⟩ := hE.ilo.at hlt
  have hlo0 := H.lo0 _ hlt
  have hhi1 := H.hi1 _ hlt
  have hrow := H.ok.row pre.length (by rw [← H.nt]; exact hlt)
  rw [hfa] at hcfr
  have IH := Lib.hid ih
  have HALL := Lib.hid hall
  have HL := Lib.hid hl
  clear ih hall hl
  go_enter Try.func91, Try.ntmps91
  go_wp2_with fail
  go_loopw [9] (fun x wr => ∃ i : Nat, i ≤ (q.hi[pre.length]?.getD 0 - q.lo[pre.length]?.getD 0 + 1).toNat ∧ x = .int .i64 (q.lo[pre.length]?.getD 0 + (i : Int)) ∧ Hid (J (done ++ enumTo q.f q.lo q.hi k pre i) wr) ∧ NEnv q wr ∧ Buf q wr pre) (fun x _ => (q.hi[pre.length]?.getD 0 + 1 - intOf x).toNat)
  case atStart => exact ⟨0, Nat.zero_le _, by simp, Lib.hid (by simpa [enumTo] using hJ), hE, hB⟩
  case round =>
    obtain ⟨i, hi, rfl, hJr, hEr, hBr⟩ := hrel
    have hcto := hEr.cto
    obtain ⟨ha, hha, hhb, hhc⟩ := hEr.ihi.at hlt
    by_cases hle : q.lo[pre.length]?.getD 0 + (i : Int) ≤ q.hi[pre.length]?.getD 0
    · have hM : i < (q.hi[pre.length]?.getD 0 - q.lo[pre.length]?.getD 0 + 1).toNat := by omega
      have hsp := Lib.hid (enum_split q.f q.lo q.hi k pre i hM)
      have hsu := Lib.hid (enumTo_succ q.f q.lo q.hi k pre i)
      rw [hha] at hcto
      generalize hv : q.lo[pre.length]?.getD 0 + (i : Int) = v at *
      have hv0 : 0 ≤ v ∧ v ≤ ((q.f.times[pre.length]?.getD []).length : Int) := by omega
      have HV := Lib.hid hv
      clear hv
      go_wp2_with fail
      refine (wpIn_wide (n := 0)).1 ?_
      refine region_inv (F := Fence.wide) (by kernel_rfl) (by rfl) (by decide) (fun _ => trivial)
        (fun done' u W' => Kn [some (.func (.func 91) #[] #[.pointer (some ⟨q.bfr, 0, none⟩), .pointer (some ⟨q.bfl, 0, none⟩), .pointer (some ⟨q.by_, 0, none⟩), .pointer (some ⟨q.bto, 0, none⟩), .pointer (some ⟨q.bn, 0, none⟩)]), some (.slice (some ⟨q.p, 0, none⟩) pre.length q.n), some (.int .i64 v), none, some (.slice (some ⟨q.p, 0, none⟩) (pre.length + 1) q.n), none, none] done' u ∧
          R7 q J Jx pre (done ++ enumTo q.f q.lo q.hi k pre (i + 1)) wr v done' u W')
        (fun u => ⟨Kn.start _ _, ⟨fun _ => (Gr.drew wr).only _, fun _ => Gr.drew wr, (fun _ h => by cases h), (fun _ h => by cases h), (fun h => by cases h)⟩⟩) ⟨?_, ?_, ?_, ?_, ?_, ?_, ?_, trivial⟩ ?_
      · rintro u done' W' hd hanc hclo ⟨hk, hR⟩
        have hc := (H.env _ _ hEr ((hR.only (not_done hclo hd 5 rfl (by kernel_rfl))).mono (fun _ _ h => .inr h))).cn_
        refine op_plain (ro := none) rfl (fun c h => by cases h) fun K hK => ?_
        simp only [fillL, List.setIfInBounds_toArray, List.set_cons_zero, List.set_cons_succ, Nat.zero_add, Nat.reduceAdd] at hK ⊢
        go_simp
        exact hK _ _ ⟨hk.new rfl, hR.quiet (by decide) _⟩
      · rintro u done' W' hd hanc hclo ⟨hk, hR⟩
        refine op_plain (ro := none) rfl (fun c h => by cases h) fun K hK => ?_
        simp only [fillL, List.setIfInBounds_toArray, List.set_cons_zero, List.set_cons_succ, Nat.zero_add, Nat.reduceAdd] at hK ⊢
        go_simp
        exact hK _ _ ⟨hk.new rfl, hR.quiet (by decide) _⟩
      · rintro u done' W' hd hanc hclo ⟨hk, hR⟩
        refine op_plain (ro := none) rfl (fun c h => by cases h) fun K hK => ?_
        simp only [fillL, List.setIfInBounds_toArray, List.set_cons_zero, List.set_cons_succ, Nat.zero_add, Nat.reduceAdd] at hK ⊢
        go_simp
        exact hK _ _ ⟨hk.new rfl, hR.quiet (by decide) _⟩
      · rintro u done' W' hd hanc hclo ⟨hk, hR⟩
        have e2 := hk.get 2 rfl (hanc 2 (mem_of (by kernel_rfl)))
        have h4 : done' 4 = false := not_done hclo hd 4 rfl (by kernel_rfl)
        have h5 : done' 5 = false := not_done hclo hd 5 rfl (by kernel_rfl)
        have hg := hR.gr h4
        refine op_plain (ro := none) rfl (fun c h => by cases h) fun K hK => ?_
        simp only [fillL, List.setIfInBounds_toArray, List.set_cons_zero, List.set_cons_succ, Nat.zero_add, Nat.reduceAdd, e2] at hK ⊢
        go_simp
        refine hK _ _ ⟨hk.skip rfl, ⟨fun _ => (hg.allocR _).only _, fun _ => hg.allocR _, fun _ _ => ⟨_, rfl, hg.size, ?_⟩, (fun _ h => by rw [upd_ne (by decide), h4] at h; cases h), (fun h => by rw [upd_ne (by decide), h5] at h; cases h)⟩⟩
        simp
      · rintro u done' W' hd hanc hclo ⟨hk, hR⟩
        have e1 := hk.get 1 rfl (hanc 1 (mem_of (by kernel_rfl)))
        have h5 : done' 5 = false := not_done hclo hd 5 rfl (by kernel_rfl)
        have hg := hR.gr hd
        obtain ⟨g, e3, hge, hgc⟩ := hR.one hd (hanc 3 (mem_of (by kernel_rfl)))
        obtain ⟨i0, hi0, hz0, hz1, hz2⟩ := info_parts Try.info3
        have hbW : Buf q W' pre := by
          obtain ⟨rst, hbk, hrl⟩ := hBr
          exact ⟨rst, (hg.below.block _ hEr.pl).trans hbk, hrl⟩
        obtain ⟨cur, hcb, hcs, hce⟩ := hbW.push (v := v) hlt
        refine op_plain (ro := none) rfl (fun c h => by cases h) fun K hK => ?_
        simp only [fillL, List.setIfInBounds_toArray, List.set_cons_zero, List.set_cons_succ, Nat.zero_add, Nat.reduceAdd, e1, e3] at hK ⊢
        refine wp_append_room (P := Try.prog) _ _ 26 3 i0 rfl Try.underlying26 hi0 q.p pre.length q.n cur rfl hcb ⟨g, 0, none⟩ 1 1 [.int .i64 v] rfl (by rw [hz1]; rfl) ?_ (by simp [Value.oneCell']) (by omega) (by rw [hz1]; simp; omega) ?_
        · intro j u hj
          cases j with
          | zero => simp at hj; subst hj; exact hgc
          | succ j => simp at hj
        · rw [hz1]
          simp only [List.length_singleton]
          rw [hce]
          have hs := setRow_only (arr := ((pre ++ [v]).map (Value.int .i64) ++ cur.toList.drop (pre.length + 1)).toArray) hcb
          refine hK _ _ ⟨hk.new rfl, ⟨fun _ => (hg.only _).trans hs.1, (fun h => by rw [upd_self] at h; cases h), (fun h => by rw [upd_self] at h; cases h), fun _ _ => ⟨_, hs.2, ?_⟩, (fun h => by rw [upd_ne (by decide), h5] at h; cases h)⟩⟩
          simp [hcs]; omega
      · rintro u done' W' hd hanc hclo ⟨hk, hR⟩
        have e0 := hk.get 0 rfl (hanc 0 (mem_of (by kernel_rfl)))
        have e4 := hk.get 4 rfl (hanc 4 (mem_of (by kernel_rfl)))
        have ho := hR.only hd
        have hb := hR.buf hd (hanc 4 (mem_of (by kernel_rfl)))
        have hEn := H.env _ _ hEr (ho.mono (fun _ _ h => .inr h))
        have hJn := H.hJ _ _ _ hJr.out ho
        obtain ⟨r, hr⟩ := hsp.out
        have hcon := IH.out v (done ++ enumTo q.f q.lo q.hi k pre i) (r ++ rest) W' hv0 hEn hb hJn (by rw [HALL.out, hr]; simp)
        have HCON := Lib.hid hcon
        have h6 : done' 6 = false := not_done hclo hd 6 rfl (by kernel_rfl)
        clear hcon hr
        refine op_plain (ro := none) rfl (fun c h => by cases h) fun K hK => ?_
        simp only [fillL, List.setIfInBounds_toArray, List.set_cons_zero, List.set_cons_succ, Nat.zero_add, Nat.reduceAdd, e0, e4] at hK ⊢
        go_simp
        refine HCON.out.mono ?_
        rintro e w2 hpost
        have hout : ∃ b, e = .returned (.bool b) ∧ StepOut q J Jx pre (done ++ enumTo q.f q.lo q.hi k pre (i + 1)) w2 b := by
          rcases hpost with ⟨h, hj, he, hb⟩ | ⟨h, hx⟩
          · exact ⟨true, h, .inl ⟨rfl, by rw [hsu.out, ← List.append_assoc]; exact hj, he, hb.shorten⟩⟩
          · exact ⟨false, h, .inr ⟨rfl, hx⟩⟩
        obtain ⟨b, rfl, hso⟩ := hout
        exact hK _ _ ⟨hk.skip rfl, ⟨(fun h => by rw [upd_self] at h; cases h), (fun h => by rw [upd_ne (by decide), hanc 4 (mem_of (by kernel_rfl))] at h; cases h), (fun h => by rw [upd_ne (by decide), hanc 4 (mem_of (by kernel_rfl))] at h; cases h), (fun h => by rw [upd_self] at h; cases h),
          fun _ => ⟨b, rfl, hso, fun h => by rw [upd_ne (by decide), h6] at h; cases h⟩⟩⟩
      · rintro u done' W' hd hanc hclo ⟨hk, hR⟩
        obtain ⟨b, e5, hso, _⟩ := hR.fin (hanc 5 (mem_of (by kernel_rfl)))
        refine op_plain (ro := none) rfl (fun c h => by cases h) fun K hK => ?_
        simp only [fillL, List.setIfInBounds_toArray, List.set_cons_zero, List.set_cons_succ, Nat.zero_add, Nat.reduceAdd, e5] at hK ⊢
        go_simp
        exact hK _ _ ⟨hk.skip rfl, ⟨(fun h => by rw [upd_ne (by decide), hanc 5 (mem_of (by kernel_rfl))] at h; cases h), (fun h => by rw [upd_ne (by decide), hanc 4 (mem_of (by kernel_rfl))] at h; cases h), (fun h => by rw [upd_ne (by decide), hanc 4 (mem_of (by kernel_rfl))] at h; cases h), (fun h => by rw [upd_ne (by decide), hanc 5 (mem_of (by kernel_rfl))] at h; cases h),
          fun _ => ⟨b, by simpa using e5, hso, fun _ => by simp⟩⟩⟩
      · rintro u W' ⟨done', hdn, hk, hR⟩
        obtain ⟨b, e5, hso, h6⟩ := hR.fin (hdn 5 (by decide))
        have e6 := h6 (hdn 6 (by decide))
        simp only [fillL, List.setIfInBounds_toArray, List.set_cons_zero, List.set_cons_succ, Nat.zero_add, Nat.reduceAdd, e6]
        rcases hso with ⟨rfl, hj, he, hb⟩ | ⟨rfl, hx⟩
        · have HJ := Lib.hid hj
          clear hj
          go_wp2
          go_roundw
          case rel => exact ⟨i + 1, by omega, by rw [← HV.out]; go_num, HJ, he, hb⟩
          case measure => simp [intOf]; omega
        · go_wp2
          go_ret
          exact .inr ⟨rfl, hx⟩
    · have hM : i = (q.hi[pre.length]?.getD 0 - q.lo[pre.length]?.getD 0 + 1).toNat := by omega
      have hfin : Hid (enum q.f q.lo q.hi (k + 1) pre = enumTo q.f q.lo q.hi k pre i) := Lib.hid (by rw [hM]; rfl)
      have HM := Lib.hid hM
      clear hM
      rw [hha] at hcto
      go_wp2_with fail
      go_ret
      exact .inl ⟨rfl, by rw [hfin.out]; exact hJr.out, hEr, hBr⟩
end
section
open Go.RowKit

theorem next_any (q : NP) (Y : Nat → Prop) (J : List (List Int) → World → Prop) (Jx : World → Prop) (all : List (List Int)) (H : NHyp q Y J Jx all) : ∀ (k : Nat) (pre : List Int) (done rest : List (List Int)) (W : World),
    pre.length + k = q.n → (∀ c, c < pre.length → 0 ≤ pre[c]?.getD 0 ∧ pre[c]?.getD 0 ≤ ((q.f.times[c]?.getD []).length : Int)) → NEnv q W → Buf q W pre → J done W → all = done ++ (enum q.f q.lo q.hi k pre ++ rest) →
    Calls Try.prog 91 #[.slice (some ⟨q.p, 0, none⟩) pre.length q.n, .pointer (some ⟨q.bfr, 0, none⟩), .pointer (some ⟨q.bfl, 0, none⟩), .pointer (some ⟨q.by_, 0, none⟩), .pointer (some ⟨q.bto, 0, none⟩), .pointer (some ⟨q.bn, 0, none⟩)] W
      (NPost q J Jx pre (done ++ enum q.f q.lo q.hi k pre)) := by
  intro k
  induction k with
  | zero =>
    intro pre done rest W hl hv hE hB hJ hall
    have hl' : pre.length = q.n := by omega
    have := next_leaf q Y J Jx all H pre done rest W hl' ⟨by rw [hl', H.nt], fun c hc => hv c (by rw [hl', H.nt]; exact hc)⟩ hE hB hJ hall
    rw [hl']
    exact this
  | succ k ih =>
    intro pre done rest W hl hv hE hB hJ hall
    refine next_step q Y J Jx all H k pre done rest W (fun v done rest W hvv hE hB hJ hall => ?_) hl hE hB hJ hall
    have := ih (pre ++ [v]) done rest W (by simp; omega) (fun c hc => ?_) hE hB hJ hall
    · simpa using this
    · by_cases e : c = pre.length
      · subst e; simpa using hvv
      · have hc' : c < pre.length := by simp at hc; omega
        rw [List.getElem?_append_left hc']
        exact hv c hc'

/-- what the iterator leaves: it went through, or it was stopped -/
def SPost (J : List (List Int) → World → Prop) (Jx : World → Prop) (all : List (List Int)) (e : Ending) (W' : World) : Prop := (∃ v, e = .returned v) ∧ (J all W' ∨ Jx W')

/-- the data that the iterator reads, in the world where it was made, and what may have turned since -/
structure SBase (wB : World) (S : Nat → Prop) (f : Fl) (ta : Option Addr) (tn : Nat) (ca : Option Addr) (cn : Nat) (fa toa : Option Addr) (n : Nat) (lo hi : List Int) : Prop where
  ok : FlOk f
  fl : FlAt wB ta tn ca cn f
  ilo : Ints wB fa n lo
  ihi : Ints wB toa n hi
  noc : NoCells S wB
  new : ∀ b, wB.heap.size ≤ b → S b
  n1 : 1 ≤ n
  nt : n = f.times.length
  lo0 : ∀ c, c < n → 0 ≤ lo[c]?.getD 0
  hi1 : ∀ c, c < n → hi[c]?.getD 0 ≤ ((f.times[c]?.getD []).length : Int)

structure R3 (q : NP) (J : List (List Int) → World → Prop) (Jx : World → Prop) (all : List (List Int)) (w2 : World) (done : Nat → Bool) (u : Nat → Value) (W : World) : Prop where
  gr : done 4 = false → Gr w2 W
  sz : done 3 = false → W.heap.size = w2.heap.size
  buf : done 4 = false → done 3 = true → Buf q W [] ∧ q.p < W.heap.size
  fin : done 4 = true → J all W ∨ Jx W

theorem R3.quiet {q : NP} {J : List (List Int) → World → Prop} {Jx : World → Prop} {all : List (List Int)} {w2 : World} {done : Nat → Bool} {u : Nat → Value} {W : World} (h : R3 q J Jx all w2 done u W) {i : Nat} (hi : i < 3) (x : Value) :
    R3 q J Jx all w2 (upd done i) (fun j => if j = i then x else u j) W := by
  have e3 : (3 : Nat) ≠ i := by omega
  have e4 : (4 : Nat) ≠ i := by omega
  refine ⟨?_, ?_, ?_, ?_⟩ <;> simp only [upd_ne e3, upd_ne e4]
  · exact h.gr
  · exact h.sz
  · exact h.buf
  · exact h.fin
end
section
open Go.RowKit

theorem cell_new {w : World} {cs : Array Value} {t : TypeId} {j : Nat} {v : Value} (h : cs[j]? = some v) : (w.alloc (.cells cs t)).cell? ⟨w.heap.size, j, none⟩ = some v := by
  have := World.alloc_heap_new w (.cells cs t)
  unfold World.cell?
  simp only [this]
  exact h

theorem run_makeSlice_ints (w : World) (n : Nat) (hn : n ≤ 6) : (Instr.makeSlice 26 (.int .i64 0) (.int .i64 (n : Int))).run Try.prog w = .ok (.slice (some ⟨w.heap.size, 0, none⟩) 0 n) (w.alloc (.cells (List.replicate n (.int .i64 0)).toArray 3)) := by
  obtain rfl | rfl | rfl | rfl | rfl | rfl | rfl : n = 0 ∨ n = 1 ∨ n = 2 ∨ n = 3 ∨ n = 4 ∨ n = 5 ∨ n = 6 := by omega
  all_goals kernel_rfl

set_option maxHeartbeats 1000000 in
theorem states1_any (wB W0 : World) (S Y : Nat → Prop) (J : List (List Int) → World → Prop) (Jx : World → Prop) (f : Fl) (ta ca fa toa : Option Addr) (tn tc cn cc n fc toc : Nat) (lo hi : List Int) (bfr bfl bto l : Nat)
    (hb : SBase wB S f ta tn ca cn fa toa n lo hi) (hbase : Only S wB W0) (hYS : ∀ b, Y b → S b) (hYlt : ∀ b, Y b → b < W0.heap.size)
    (c1 : W0.cell? ⟨bfr, 0, none⟩ = some (.slice fa n fc)) (c2 : W0.cell? ⟨bfl, 0, none⟩ = some (.slice ta tn tc)) (c3 : W0.cell? ⟨bfl, 1, none⟩ = some (.slice ca cn cc)) (c4 : W0.cell? ⟨bto, 0, none⟩ = some (.slice toa n toc))
    (n1 : ¬ Y bfr) (n2 : ¬ Y bfl) (n3 : ¬ Y bto) (hJ0 : J [] W0) (hJ : ∀ done W W', J done W → Only (fun b => b = W0.heap.size + 2) W W' → J done W') (hJx : ∀ W W', Jx W → Gr W W' → Jx W')
    (hY : ∀ done x rest W a c, J done W → Only S wB W → Ints W (some a) n x → Is3 W a.block → W0.heap.size + 2 < a.block → enum f lo hi n [] = done ++ x :: rest → StOk f x → worksB f x = true →
      YieldAt Fence.wide 0 Try.prog l #[.slice (some a) n c] W fun e W' => (e = .returned (.bool true) ∧ J (done ++ [x]) W' ∧ Only Y W W') ∨ (e = .returned (.bool false) ∧ Jx W')) :
    Calls Try.prog 90 #[.func (.yield l) #[] #[], .pointer (some ⟨bfr, 0, none⟩), .pointer (some ⟨bfl, 0, none⟩), .pointer (some ⟨bto, 0, none⟩)] W0 (SPost J Jx (enum f lo hi n [])) := by
  have hn6 : n ≤ 6 := by have := hb.ok.n6; have := hb.nt; omega
  obtain ⟨q, hq⟩ : ∃ q : NP, q = ⟨bfr, bfl, W0.heap.size, bto, W0.heap.size + 1, W0.heap.size + 2, l, fa, fc, ta, tn, tc, ca, cn, cc, toa, toc, n, f, lo, hi, wB, S⟩ := ⟨_, rfl⟩
  have hsz0 : wB.heap.size ≤ W0.heap.size := hbase.size
  have H : NHyp q Y J Jx (enum f lo hi n []) := by
    subst hq
    refine ⟨hb.ok, hb.n1, hb.nt, hb.lo0, hb.hi1, ?_, fun h => by have := hYlt _ h; simp only at this; omega, fun done W W' hj ho => hJ done W W' hj ho, hJx, ?_⟩
    · intro W W' hE ho
      have hbs : Only S wB W' := hE.base.trans (ho.mono (fun b _ h => by
        rcases h with h | h
        · exact hYS b h
        · subst h; exact hb.new _ (by simp; omega)))
      have hk : ∀ (p : Addr) (v : Value), W.cell? p = some v → ¬ Y p.block → p.block ≠ W0.heap.size + 2 → W'.cell? p = some v := fun p v hc h1 h2 => ho.cell hc (fun h => h.elim h1 h2)
      have l1 := lt_cell c1
      have l2 := lt_cell c2
      have l4 := lt_cell c4
      simp only at l1 l2 l4
      refine ⟨hk _ _ hE.cfr n1 (by simp only; omega), hk _ _ hE.cfl0 n2 (by simp only; omega), hk _ _ hE.cfl1 n2 (by simp only; omega), hk _ _ hE.cy (fun h => by have := hYlt _ h; simp only at this; omega) (by simp), hk _ _ hE.cto n3 (by simp only; omega), hk _ _ hE.cn_ (fun h => by have := hYlt _ h; simp only at this; omega) (by simp),
        hb.fl.only hbs hb.noc, hb.ilo.only hbs hb.noc, hb.ihi.only hbs hb.noc, Nat.lt_of_lt_of_le hE.pl ho.size, hbs⟩
    · intro done x rest W a c hj hE hi h3 hp hall hst hw
      exact hY done x rest W a c hj hE.base hi h3 hp hall hst hw
  obtain ⟨w2, hw2⟩ : ∃ w2, (W0.alloc (.cells #[.func (.yield l) #[] #[]] 118)).alloc (.cells #[.func (.func 91) #[] #[.pointer (some ⟨bfr, 0, none⟩), .pointer (some ⟨bfl, 0, none⟩), .pointer (some ⟨W0.heap.size, 0, none⟩), .pointer (some ⟨bto, 0, none⟩), .pointer (some ⟨W0.heap.size + 1, 0, none⟩)]] 118) = w2 := ⟨_, rfl⟩
  have g2 : Gr W0 w2 := by rw [← hw2]; exact (Gr.alloc _ _).allocR _
  have s2 : w2.heap.size = W0.heap.size + 2 := by rw [← hw2]; simp
  have cy2 : w2.cell? ⟨W0.heap.size, 0, none⟩ = some (.func (.yield l) #[] #[]) := by
    rw [← hw2, (Gr.alloc _ _).cell (by simp)]; exact cell_new rfl
  have cn2 : w2.cell? ⟨W0.heap.size + 1, 0, none⟩ = some (.func (.func 91) #[] #[.pointer (some ⟨bfr, 0, none⟩), .pointer (some ⟨bfl, 0, none⟩), .pointer (some ⟨W0.heap.size, 0, none⟩), .pointer (some ⟨bto, 0, none⟩), .pointer (some ⟨W0.heap.size + 1, 0, none⟩)]) := by
    rw [← hw2]; simp
  have c12 := (g2.cell (lt_cell c1)).trans c1
  have HQ := Lib.hid hq
  have S2 := Lib.hid s2
  go_enter Try.func90, Try.ntmps90
  go_wp2_with fail
  clear hw2
  refine (wpIn_wide (n := 0)).1 ?_
  refine region_inv (F := Fence.wide) (by kernel_rfl) (by rfl) (by decide) (fun _ => trivial)
    (fun done' u W' => Kn [some (.func (.func 91) #[] #[.pointer (some ⟨bfr, 0, none⟩), .pointer (some ⟨bfl, 0, none⟩), .pointer (some ⟨W0.heap.size, 0, none⟩), .pointer (some ⟨bto, 0, none⟩), .pointer (some ⟨W0.heap.size + 1, 0, none⟩)]), some (.slice fa n fc), some (.int .i64 (n : Int)), some (.slice (some ⟨W0.heap.size + 2, 0, none⟩) 0 n), none] done' u ∧ R3 q J Jx (enum f lo hi n []) w2 done' u W')
    (fun u => ⟨Kn.start _ _, ⟨fun _ => Gr.drew w2, fun _ => rfl, (fun _ h => by cases h), (fun h => by cases h)⟩⟩) ⟨?_, ?_, ?_, ?_, ?_, trivial⟩ ?_
  · rintro u done' W' hd hanc hclo ⟨hk, hR⟩
    have hg := hR.gr (not_done hclo hd 4 rfl (by kernel_rfl))
    have hc := (hg.cell (lt_cell cn2)).trans cn2
    refine op_plain (ro := none) rfl (fun c h => by cases h) fun K hK => ?_
    simp only [fillL, List.setIfInBounds_toArray, List.set_cons_zero, List.set_cons_succ, Nat.zero_add, Nat.reduceAdd] at hK ⊢
    go_simp
    exact hK _ _ ⟨hk.new rfl, hR.quiet (by decide) _⟩
  · rintro u done' W' hd hanc hclo ⟨hk, hR⟩
    have hg := hR.gr (not_done hclo hd 4 rfl (by kernel_rfl))
    have hc := (hg.cell (lt_cell c12)).trans c12
    refine op_plain (ro := none) rfl (fun c h => by cases h) fun K hK => ?_
    simp only [fillL, List.setIfInBounds_toArray, List.set_cons_zero, List.set_cons_succ, Nat.zero_add, Nat.reduceAdd] at hK ⊢
    go_simp
    exact hK _ _ ⟨hk.new rfl, hR.quiet (by decide) _⟩
  · rintro u done' W' hd hanc hclo ⟨hk, hR⟩
    have e1 := hk.get 1 rfl (hanc 1 (mem_of (by kernel_rfl)))
    refine op_plain (ro := none) rfl (fun c h => by cases h) fun K hK => ?_
    simp only [fillL, List.setIfInBounds_toArray, List.set_cons_zero, List.set_cons_succ, Nat.zero_add, Nat.reduceAdd, e1] at hK ⊢
    go_simp
    exact hK _ _ ⟨hk.new rfl, hR.quiet (by decide) _⟩
  · rintro u done' W' hd hanc hclo ⟨hk, hR⟩
    have e2 := hk.get 2 rfl (hanc 2 (mem_of (by kernel_rfl)))
    have h4 : done' 4 = false := not_done hclo hd 4 rfl (by kernel_rfl)
    have hg := hR.gr h4
    have hsz := (hR.sz hd).trans S2.out
    have hmk := run_makeSlice_ints W' n hn6
    rw [hsz] at hmk
    refine op_plain (ro := none) rfl (fun c h => by cases h) fun K hK => ?_
    simp only [fillL, List.setIfInBounds_toArray, List.set_cons_zero, List.set_cons_succ, Nat.zero_add, Nat.reduceAdd, e2] at hK ⊢
    have HS := Lib.hid hsz
    clear hsz
    go_simp
    refine hK _ _ ⟨hk.new rfl, ⟨fun _ => hg.allocR _, (fun h => by rw [upd_self] at h; cases h), fun _ _ => ⟨⟨List.replicate n (.int .i64 0), ?_, by rw [HQ.out]; simp⟩, ?_⟩, (fun h => by rw [upd_ne (by decide), h4] at h; cases h)⟩⟩
    · rw [HQ.out]; simp only; rw [← HS.out]; exact World.alloc_heap_new _ _
    · rw [HQ.out]; simp only [World.size_alloc]; rw [HS.out]; omega
  · rintro u done' W' hd hanc hclo ⟨hk, hR⟩
    have e0 := hk.get 0 rfl (hanc 0 (mem_of (by kernel_rfl)))
    have e3 := hk.get 3 rfl (hanc 3 (mem_of (by kernel_rfl)))
    have hg := hR.gr hd
    obtain ⟨hbuf, hpl⟩ := hR.buf hd (hanc 3 (mem_of (by kernel_rfl)))
    have hgg := g2.trans hg
    have hbs : Only S wB W' := hbase.thenGr hgg
    have hE : NEnv q W' := by
      rw [HQ.out] at hpl ⊢
      exact ⟨(hgg.cell (lt_cell c1)).trans c1, (hgg.cell (lt_cell c2)).trans c2, (hgg.cell (lt_cell c3)).trans c3, (hg.cell (lt_cell cy2)).trans cy2, (hgg.cell (lt_cell c4)).trans c4, (hg.cell (lt_cell cn2)).trans cn2, hb.fl.only hbs hb.noc, hb.ilo.only hbs hb.noc, hb.ihi.only hbs hb.noc, hpl, hbs⟩
    have hall : enum f lo hi n [] = [] ++ (enum q.f q.lo q.hi n [] ++ []) := by rw [HQ.out]; simp
    have hcon := next_any q Y J Jx (enum f lo hi n []) H n [] [] [] W' (by rw [HQ.out]; simp) (fun c h => by simp at h) hE hbuf (hJ _ _ _ hJ0 (hgg.only _)) hall
    have hpost : ∀ e W'', NPost q J Jx [] ([] ++ enum q.f q.lo q.hi n []) e W'' → (∃ v, e = .returned v) ∧ (J (enum f lo hi n []) W'' ∨ Jx W'') := by
      rw [HQ.out]
      rintro e W'' (⟨h1, h2, _⟩ | ⟨h1, h2⟩)
      · exact ⟨⟨_, h1⟩, .inl (by simpa using h2)⟩
      · exact ⟨⟨_, h1⟩, .inr h2⟩
    have hcon2 : Calls Try.prog 91 #[.slice (some ⟨W0.heap.size + 2, 0, none⟩) 0 n, .pointer (some ⟨bfr, 0, none⟩), .pointer (some ⟨bfl, 0, none⟩), .pointer (some ⟨W0.heap.size, 0, none⟩), .pointer (some ⟨bto, 0, none⟩), .pointer (some ⟨W0.heap.size + 1, 0, none⟩)] W' (fun e W'' => (∃ v, e = .returned v) ∧ (J (enum f lo hi n []) W'' ∨ Jx W'')) := by
      have := hcon.mono hpost
      rw [HQ.out] at this
      exact this
    have HCON := Lib.hid hcon2
    clear hcon hcon2 hpost hall
    refine op_plain (ro := none) rfl (fun c h => by cases h) fun K hK => ?_
    simp only [fillL, List.setIfInBounds_toArray, List.set_cons_zero, List.set_cons_succ, Nat.zero_add, Nat.reduceAdd, e0, e3] at hK ⊢
    go_simp
    refine HCON.out.mono ?_
    rintro e w3 ⟨⟨v, rfl⟩, hfin⟩
    exact hK _ _ ⟨hk.skip rfl, ⟨(fun h => by rw [upd_self] at h; cases h), (fun h => by rw [upd_ne (by decide), hanc 3 (mem_of (by kernel_rfl))] at h; cases h), (fun h => by rw [upd_self] at h; cases h), fun _ => hfin⟩⟩
  · rintro u W' ⟨done', hdn, hk, hR⟩
    have hf := hR.fin (hdn 4 (by decide))
    go_wp2
    go_end0
    exact ⟨⟨_, rfl⟩, hf⟩
end
section
open Go.RowKit

/-- the iterator and its three boxes -/
def NewIter (w : World) (va vb vc vd : Value) (e : Ending) (w' : World) : Prop :=
  e = .returned (.func (.func 90) #[] #[.pointer (some ⟨w.heap.size + 1, 0, none⟩), .pointer (some ⟨w.heap.size, 0, none⟩), .pointer (some ⟨w.heap.size + 2, 0, none⟩)]) ∧
    w' = ((w.alloc (.cells #[va, vb] 25)).alloc (.cells #[vc] 26)).alloc (.cells #[vd] 26)

theorem states_any (ta ca fa toa : Option Addr) (tn tc cn cc fn fc ton toc : Nat) (w : World) :
    Calls Try.prog 59 #[.agg #[.slice ta tn tc, .slice ca cn cc], .slice fa fn fc, .slice toa ton toc] w (NewIter w (.slice ta tn tc) (.slice ca cn cc) (.slice fa fn fc) (.slice toa ton toc)) := by
  go_enter Try.func59, Try.ntmps59
  go_wp2
  go_ret
  exact ⟨rfl, rfl⟩

theorem NewIter.facts {w w' : World} {va vb vc vd : Value} {e : Ending} (h : NewIter w va vb vc vd e w') : Gr w w' ∧ w'.heap.size = w.heap.size + 3 ∧ w'.cell? ⟨w.heap.size, 0, none⟩ = some va ∧ w'.cell? ⟨w.heap.size, 1, none⟩ = some vb ∧ w'.cell? ⟨w.heap.size + 1, 0, none⟩ = some vc ∧ w'.cell? ⟨w.heap.size + 2, 0, none⟩ = some vd := by
  obtain ⟨_, rfl⟩ := h
  have s1 : (w.alloc (.cells #[va, vb] 25)).heap.size = w.heap.size + 1 := by simp
  have s2 : ((w.alloc (.cells #[va, vb] 25)).alloc (.cells #[vc] 26)).heap.size = w.heap.size + 2 := by simp
  have g2 := (Gr.alloc (w.alloc (.cells #[va, vb] 25)) (.cells #[vc] 26)).allocR (.cells #[vd] 26)
  have g3 := Gr.alloc ((w.alloc (.cells #[va, vb] 25)).alloc (.cells #[vc] 26)) (.cells #[vd] 26)
  refine ⟨((Gr.alloc _ _).allocR _).allocR _, by simp, ?_, ?_, ?_, ?_⟩
  · exact (g2.cell (by simp)).trans (cell_new rfl)
  · exact (g2.cell (by simp)).trans (cell_new rfl)
  · rw [← s1]; exact (g3.cell (by simp)).trans (cell_new rfl)
  · rw [← s2]; exact cell_new rfl
end
section
open Go.RowKit

theorem putObj_only (W : World) (r : Nat) (o : Obj) : Only (fun b => b = r) W (W.putObj r o) := Only.putObj (S := fun b => b = r) (Only.refl _ W) (.inl rfl) o
theorem alloc_only (W : World) (o : Obj) (S : Nat → Prop) : Only S W (W.alloc o) := (Gr.alloc W o).only S

theorem Only.mono' {S S' : Nat → Prop} {a b : World} (h : Only S a b) (hs : ∀ i, S i → S' i) : Only S' a b := h.mono (fun i _ => hs i)

theorem Is3.lt {W : World} {b : Nat} (h : Is3 W b) : b < W.heap.size := by
  obtain ⟨_, _, hb⟩ := h
  exact (Array.getElem?_eq_some_iff.1 hb).1
theorem Is3.only {S : Nat → Prop} {W W' : World} {b : Nat} (h : Is3 W b) (g : Only S W W') (hs : ¬ S b) : Is3 W' b := by
  have hlt := h.lt
  obtain ⟨cur, fr, hb⟩ := h
  exact ⟨cur, fr, (g.block b hlt hs).trans hb⟩
theorem Is3.onlyN {S : Nat → Prop} {W W' : World} {b : Nat} (h : Is3 W b) (g : Only S W W') (hn : NoCells S W) : Is3 W' b := by
  refine h.only g (fun hs => ?_)
  obtain ⟨cur, fr, hb⟩ := h
  exact hn b cur 3 fr hs hb
theorem Is3.gr {W W' : World} {b : Nat} (h : Is3 W b) (g : Gr W W') : Is3 W' b := by
  have hlt := h.lt
  obtain ⟨cur, fr, hb⟩ := h
  exact ⟨cur, fr, (g.below.block b hlt).trans hb⟩
/-- what a round is handed -/
def SArg (wB w : World) (S : Nat → Prop) (f : Fl) (lo hi : List Int) (n : Nat) (x : List Int) (args : Array Value) (W : World) : Prop :=
  ∃ ad c, args = #[.slice (some ad) n c] ∧ Ints W (some ad) n x ∧ w.heap.size + 4 < ad.block ∧ x ∈ enum f lo hi n [] ∧ StOk f x ∧ worksB f x = true ∧ Only S wB W ∧ Is3 W ad.block

theorem range_states {g : Operand} {pt : Tmp} {assign body : Code} {Q : Exit → Act → World → Prop} {a : Act} {w wB : World} {S Y : Nat → Prop} {f : Fl} {ta ca fa toa : Option Addr} {tn tc cn cc n fc toc : Nat} {lo hi : List Int} {bfr bfl bto : Nat}
    (hg : a.eval g = .func (.func 90) #[] #[.pointer (some ⟨bfr, 0, none⟩), .pointer (some ⟨bfl, 0, none⟩), .pointer (some ⟨bto, 0, none⟩)])
    (hb : SBase wB S f ta tn ca cn fa toa n lo hi) (hbase : Only S wB w) (hYS : ∀ b, Y b → S b) (hYlt : ∀ b, Y b → b < w.heap.size)
    (c1 : w.cell? ⟨bfr, 0, none⟩ = some (.slice fa n fc)) (c2 : w.cell? ⟨bfl, 0, none⟩ = some (.slice ta tn tc)) (c3 : w.cell? ⟨bfl, 1, none⟩ = some (.slice ca cn cc)) (c4 : w.cell? ⟨bto, 0, none⟩ = some (.slice toa n toc))
    (n1 : ¬ Y bfr) (n2 : ¬ Y bfl) (n3 : ¬ Y bto) (I : List (List Int) → World → Prop) (Ix : Code → World → Prop)
    (h0 : I [] w) (hI : ∀ xs W W', I xs W → Only (fun b => b = w.heap.size + 1 ∨ b = w.heap.size + 4) W W' → I xs W')
    (hIx : ∀ c W W', Ix c W → Only (fun b => b = w.heap.size + 1) W W' → Ix c W') (a₁ : Value → Act)
    (hassign : ∀ (l : Nat) (v : Value) (W : World) (K : Act → World → Prop), K (a₁ v) W → assign.wpIn (Fence.wide.inRound l) 0 Try.prog (Exit.then K (fun _ _ _ => False)) { tmps := a.tmps.setIfInBounds pt v, defers := [] } W)
    (hbody : ∀ (pre : List (List Int)) (x : List Int) (ad : Addr) (c : Nat) (W : World), I pre W → Only S wB W → Ints W (some ad) n x → w.heap.size + 4 < ad.block → Is3 W ad.block → x ∈ enum f lo hi n [] → StOk f x → worksB f x = true →
      body.wpIn (Fence.wide.inRound (w.heap.size + 1)) 0 Try.prog (roundQ Y I Ix (pre ++ [x]) W) (a₁ (.slice (some ad) n c)) W)
    (hdone : ∀ (W : World), I (enum f lo hi n []) W → W.heap[w.heap.size]? = some (.deferred (some [])) → Q .normal { a with defers := { target := .collected w.heap.size, args := #[] } :: a.defers } W)
    (hstop : ∀ (c : Code) (W : World), Ix c W → W.heap[w.heap.size]? = some (.deferred (some [])) → c.wpIn Fence.wide 0 Try.prog Q { a with defers := { target := .collected w.heap.size, args := #[] } :: a.defers } W) :
    (Code.rangeFunc g #[pt] assign body).wp Try.prog Q a w := by
  have hsz := hbase.size
  refine range_rule (P := Try.prog) (α := List Int) (gf := 90) (lb := #[.pointer (some ⟨bfr, 0, none⟩), .pointer (some ⟨bfl, 0, none⟩), .pointer (some ⟨bto, 0, none⟩)]) hg (Go.Proofs.enters_of Try.func90 (by kernel_rfl) rfl)
    I Ix Y (SArg wB w S f lo hi n) (fun xs => xs = enum f lo hi n []) (fun args => a₁ (args.getD 0 undef)) (fun h => by have := hYlt _ h; omega) (fun h => by have := hYlt _ h; omega)
    (fun xs W o h => hI xs W _ h ((putObj_only _ _ _).mono' (fun i e => .inl e))) (fun c W o h => hIx c W _ h (putObj_only _ _ _))
    (fun x args W h => by obtain ⟨ad, c, rfl, _⟩ := h; rfl)
    (fun x args W o h => by
      obtain ⟨ad, c, h1, h2, h3, h4, h5, h6, h7, h8⟩ := h
      exact ⟨ad, c, h1, h2.onlyAt (putObj_only _ _ _) (fun ad' e hS => by cases e; omega), h3, h4, h5, h6, h7.trans ((putObj_only _ _ _).mono' (fun i e => by subst e; exact hb.new _ (by omega))), h8.only (putObj_only _ _ _) (by omega)⟩)
    h0 (fun xs W o h => hI xs W _ h (alloc_only _ _ _)) (fun l x args W K hE hK => by
      obtain ⟨ad, c, rfl, _⟩ := hE
      have h1 := hassign l (.slice (some ad) n c) W K hK
      simpa using h1)
    (fun pre x args W hi hE _ => by
      obtain ⟨ad, c, rfl, h2, h3, h4, h5, h6, h7, h8⟩ := hE
      exact hbody pre x ad c W hi h7 h2 h3 h8 h4 h5 h6) ?_ (fun xs W hS hi hk => by subst hS; exact hdone W hi hk) hstop
  intro L hLs hLp hyield hstart
  obtain ⟨W0, hW0⟩ : ∃ W0, (w.alloc (.deferred (some []))).alloc (.loop L) = W0 := ⟨_, rfl⟩
  have g0 : Gr w W0 := by rw [← hW0]; exact (Gr.alloc _ _).allocR _
  have s0 : W0.heap.size = w.heap.size + 2 := by rw [← hW0]; simp
  rw [hW0] at hstart ⊢
  refine callsIn_wide.2 ?_
  have hcall := states1_any wB W0 S Y (Between w.heap.size L I) (Left w.heap.size L Ix) f ta ca fa toa tn tc cn cc n fc toc lo hi bfr bfl bto (w.heap.size + 1) hb (hbase.thenGr g0) hYS (fun b h => Nat.lt_of_lt_of_le (hYlt b h) g0.size)
    ((g0.cell (lt_cell c1)).trans c1) ((g0.cell (lt_cell c2)).trans c2) ((g0.cell (lt_cell c3)).trans c3) ((g0.cell (lt_cell c4)).trans c4) n1 n2 n3 hstart
    (fun done W W' h ho => by
      rw [s0] at ho
      obtain ⟨hi, hl, hk⟩ := h
      have l1 := (Array.getElem?_eq_some_iff.1 hl).1
      have l2 := (Array.getElem?_eq_some_iff.1 hk).1
      exact ⟨hI _ _ _ hi (ho.mono' (fun i e => .inr e)), (ho.block _ l1 (by omega)).trans hl, (ho.block _ l2 (by omega)).trans hk⟩)
    (fun W W' h g => by
      obtain ⟨c, hi, hl, hk⟩ := h
      have l1 := (Array.getElem?_eq_some_iff.1 hl).1
      have l2 := (Array.getElem?_eq_some_iff.1 hk).1
      exact ⟨c, hIx _ _ _ hi (g.only _), (g.below.block _ l1).trans hl, (g.below.block _ l2).trans hk⟩)
    (fun done x rest W ad c hj hon hin h3 hp hall hst hw => by
      have hE : SArg wB w S f lo hi n x #[.slice (some ad) n c] W := ⟨ad, c, rfl, hin, by omega, by rw [hall]; simp, hst, hw, hon, h3⟩
      exact (hyield done x _ W hj hE).mono (fun e W' h => by
        rcases h with ⟨h1, h2, h3⟩ | ⟨h1, h2⟩
        · exact .inl ⟨h1, h2, h3⟩
        · exact .inr ⟨h1, h2⟩))
  refine hcall.mono (fun e W' h => ?_)
  obtain ⟨hv, h | h⟩ := h
  · exact ⟨hv, .inl ⟨_, rfl, h⟩⟩
  · exact ⟨hv, .inr h⟩
end
section
open Go.RowKit

theorem frozen_of_block {w w' : World} {a : Addr} (h : w'.heap[a.block]? = w.heap[a.block]?) : w'.frozen? a = w.frozen? a := by
  unfold World.frozen?
  rw [h]

/-- these cells hold these values and may be written -/
def LCells (w : World) (L : List (Addr × Value)) : Prop := ∀ p ∈ L, w.cell? p.1 = some p.2 ∧ w.frozen? p.1 = false
theorem LCells.only {S : Nat → Prop} {w w' : World} {L : List (Addr × Value)} (h : LCells w L) (g : Only S w w') (hs : ∀ p ∈ L, ¬ S p.1.block) : LCells w' L := fun p hp => by
  have h1 := h p hp
  have hlt := lt_cell h1.1
  exact ⟨g.cell h1.1 (hs p hp), (frozen_of_block (g.block _ hlt (hs p hp))).trans h1.2⟩
theorem LCells.onlyN {S : Nat → Prop} {w w' : World} {L : List (Addr × Value)} (h : LCells w L) (g : Only S w w') (hn : NoCells S w) : LCells w' L := h.only g (fun p hp hs => by
  obtain ⟨cs, t, fr, hb⟩ := cell_block (h p hp).1
  exact hn _ _ _ _ hs hb)
theorem LCells.gr {w w' : World} {L : List (Addr × Value)} (h : LCells w L) (g : Gr w w') : LCells w' L := fun p hp => by
  have h1 := h p hp
  exact ⟨(g.cell (lt_cell h1.1)).trans h1.1, (g.frozen (lt_cell h1.1)).trans h1.2⟩
theorem LCells.lt {w : World} {L : List (Addr × Value)} (h : LCells w L) : ∀ p ∈ L, p.1.block < w.heap.size := fun p hp => lt_cell (h p hp).1
theorem LCells.at {w : World} {L : List (Addr × Value)} (h : LCells w L) (i : Nat) {p : Addr × Value} (hp : L[i]? = some p) : w.cell? p.1 = some p.2 := (h p (List.mem_of_getElem? hp)).1
theorem LCells.fr {w : World} {L : List (Addr × Value)} (h : LCells w L) (i : Nat) {p : Addr × Value} (hp : L[i]? = some p) : w.frozen? p.1 = false := (h p (List.mem_of_getElem? hp)).2

/-- operation i alone writes: before it the world is as it was -/
structure Tail (i : Nat) (w : World) (P : World → Prop) (done : Nat → Bool) (W : World) : Prop where
  before : done i = false → W = w.drew
  after : done i = true → P W
theorem Tail.start {i : Nat} {w : World} {P : World → Prop} : Tail i w P (fun _ => false) w.drew := ⟨fun _ => rfl, fun h => by cases h⟩
theorem Tail.quiet {i : Nat} {w W : World} {P : World → Prop} {done : Nat → Bool} (h : Tail i w P done W) {j : Nat} (hj : i ≠ j) : Tail i w P (upd done j) W := by
  refine ⟨?_, ?_⟩ <;> simp only [upd_ne hj]
  · exact h.before
  · exact h.after
theorem Tail.done {i : Nat} {w W : World} {P : World → Prop} {d : Nat → Bool} (h : P W) : Tail i w P (upd d i) W := ⟨(fun h => by rw [upd_self] at h; cases h), fun _ => h⟩
end
section
open Go.RowKit

/-- these cells hold these values -/
def RCells (w : World) (L : List (Addr × Value)) : Prop := ∀ p ∈ L, w.cell? p.1 = some p.2
theorem RCells.nil (w : World) : RCells w [] := fun p hp => by simp at hp
theorem RCells.gr {w w' : World} {L : List (Addr × Value)} (h : RCells w L) (g : Gr w w') : RCells w' L := fun p hp => (g.cell (lt_cell (h p hp))).trans (h p hp)
theorem RCells.at {w : World} {L : List (Addr × Value)} (h : RCells w L) (i : Nat) {p : Addr × Value} (hp : L[i]? = some p) : w.cell? p.1 = some p.2 := h p (List.mem_of_getElem? hp)
/-- the cells of block b -/
def bcells (b : Nat) : List Value → Nat → List (Addr × Value)
  | [], _ => []
  | v :: r, k => (⟨b, k, none⟩, v) :: bcells b r (k + 1)
theorem bcells_mem {b : Nat} : ∀ {l : List Value} {k : Nat} {p : Addr × Value}, p ∈ bcells b l k → ∃ j, p.1 = ⟨b, k + j, none⟩ ∧ l[j]? = some p.2 := by
  intro l
  induction l with
  | nil => intro k p h; simp [bcells] at h
  | cons v r ih =>
    intro k p h
    simp only [bcells, List.mem_cons] at h
    rcases h with rfl | h
    · exact ⟨0, rfl, rfl⟩
    · obtain ⟨j, h1, h2⟩ := ih h
      exact ⟨j + 1, by rw [h1, show k + (j + 1) = k + 1 + j by omega], by simpa using h2⟩
theorem RCells.box {w : World} {L : List (Addr × Value)} (h : RCells w L) {b : Nat} (cs : Array Value) (t : TypeId) (hb : w.heap.size = b) : RCells (w.alloc (.cells cs t)) (L ++ bcells b cs.toList 0) := by
  intro p hp
  rcases List.mem_append.1 hp with hp | hp
  · exact h.gr (Gr.alloc _ _) p hp
  · obtain ⟨j, h1, h2⟩ := bcells_mem hp
    rw [h1, ← hb, Nat.zero_add]
    exact cell_new (by simpa using h2)
theorem RCells.append {w : World} {L M : List (Addr × Value)} (h : RCells w L) (k : RCells w M) : RCells w (L ++ M) := fun p hp => by
  rcases List.mem_append.1 hp with hp | hp
  · exact h p hp
  · exact k p hp
end
section
open Go.RowKit

theorem Try.akey : WideMaps.ArrKey Try.prog 89 3 6 := ⟨Try.underlying89, by kernel_rfl, by kernel_rfl, by kernel_rfl⟩

/-- a state as a key -/
def keyV (s : List Int) : Value := .agg #[.int .i64 (s[0]?.getD 0), .int .i64 (s[1]?.getD 0), .int .i64 (s[2]?.getD 0), .int .i64 (s[3]?.getD 0), .int .i64 (s[4]?.getD 0), .int .i64 (s[5]?.getD 0)]

/-- its numbers are small -/
def Small (s : List Int) : Prop := ∀ c : Nat, 0 ≤ s[c]?.getD 0 ∧ s[c]?.getD 0 ≤ 3

theorem keyLits_six (a0 a1 a2 a3 a4 a5 : Int) (h0 : (Lit.int .i64 a0).wf = true) (h1 : (Lit.int .i64 a1).wf = true) (h2 : (Lit.int .i64 a2).wf = true) (h3 : (Lit.int .i64 a3).wf = true) (h4 : (Lit.int .i64 a4).wf = true) (h5 : (Lit.int .i64 a5).wf = true) :
    ∃ l, keyOf Try.prog 89 (.agg #[.int .i64 a0, .int .i64 a1, .int .i64 a2, .int .i64 a3, .int .i64 a4, .int .i64 a5]) = some l := by
  unfold keyOf
  rw [Try.underlying89]
  simp only
  rw [if_pos (by kernel_rfl)]
  have hs : ∃ m, Try.prog.types.size = m + 1 := ⟨Try.prog.types.size - 1, by kernel_rfl⟩
  obtain ⟨m, hm⟩ := hs
  rw [hm]
  have c1 : Try.prog.cellsOf 89 = 6 := by kernel_rfl
  have c2 : Try.prog.cellsOf 3 = 1 := by kernel_rfl
  simp [Program.keyLits, Try.underlying89, Try.underlying3, c1, c2, Value.cells, List.range, List.range.loop, h0, h1, h2, h3, h4, h5]

theorem keyOf_keyV {s : List Int} (h : Small s) : ∃ l, keyOf Try.prog 89 (keyV s) = some l := by
  have hw : ∀ c : Nat, (Lit.int .i64 (s[c]?.getD 0)).wf = true := fun c => by
    have := h c; simp [Lit.wf, IntKind.min, IntKind.max, IntKind.signed, IntKind.bits]; omega
  exact keyLits_six _ _ _ _ _ _ (hw 0) (hw 1) (hw 2) (hw 3) (hw 4) (hw 5)

theorem keyV_inj {s t : List Int} (hl : s.length = t.length) (h6 : s.length ≤ 6) (h : keyV s = keyV t) : s = t := by
  unfold keyV at h
  injection h with h
  simp at h
  obtain ⟨h0, h1, h2, h3, h4, h5⟩ := h
  apply List.ext_getElem? 
  intro i
  by_cases hi : i < s.length
  · have hg : s[i]?.getD 0 = t[i]?.getD 0 := by
      have : i = 0 ∨ i = 1 ∨ i = 2 ∨ i = 3 ∨ i = 4 ∨ i = 5 := by omega
      rcases this with rfl | rfl | rfl | rfl | rfl | rfl <;> assumption
    have hi' : i < t.length := by omega
    simp [hi, hi'] at hg ⊢
    exact hg
  · rw [List.getElem?_eq_none (by omega), List.getElem?_eq_none (by omega)]

/-- block m is a map whose keys are states, and whose values are good for them -/
def Memo (W : World) (m : Nat) (G : List Int → Value → Prop) : Prop := ∃ es clk, W.heap[m]? = some (.map es clk) ∧ (∀ e ∈ es.toList, ∃ s, e.key = keyV s ∧ Small s ∧ G s e.val) ∧ es.toList.Pairwise (fun x y => x.key ≠ y.key)

theorem Memo.lt {W : World} {m : Nat} {G : List Int → Value → Prop} (h : Memo W m G) : m < W.heap.size := by
  obtain ⟨es, clk, hb, _⟩ := h
  exact (Array.getElem?_eq_some_iff.1 hb).1
theorem Memo.mono {W W' : World} {m : Nat} {G G' : List Int → Value → Prop} (h : Memo W m G) (hb : W'.heap[m]? = W.heap[m]?) (hG : ∀ s v, G s v → G' s v) : Memo W' m G' := by
  obtain ⟨es, clk, hm, hall, hpw⟩ := h
  exact ⟨es, clk, hb.trans hm, fun e he => by obtain ⟨s, h1, h2, h3⟩ := hall e he; exact ⟨s, h1, h2, hG _ _ h3⟩, hpw⟩

/-- a lookup: a value that is good for the state, or none -/
theorem memo_lookup {W : World} {m t e : Nat} {G : List Int → Value → Prop} {z : Value} {s : List Int} (ht : Try.prog.underlying t = some (.map 89 e)) (hz : (zeroValue e).run Try.prog W = .ok z W) (h : Memo W m G) (hs : Small s) :
    (∃ v, (Instr.lookup t (.map (some m)) (keyV s) true).run Try.prog W = .ok (.tuple #[v, .bool true]) W ∧ ∃ s', keyV s' = keyV s ∧ Small s' ∧ G s' v) ∨ (Instr.lookup t (.map (some m)) (keyV s) true).run Try.prog W = .ok (.tuple #[z, .bool false]) W := by
  obtain ⟨es, clk, hb, hall, hpw⟩ := h
  obtain ⟨l, hl⟩ := keyOf_keyV hs
  have K := Try.akey.law
  rcases K.find W hl es.toList (fun e he => by obtain ⟨s', h1, h2, _⟩ := hall e he; rw [h1]; exact keyOf_keyV h2) with ⟨h1, h2⟩ | ⟨j, e0, h1, h2, h3⟩
  · exact .inr (by simp [Instr.lookup, run_underlying ht, MapKept.run_getObj_map hb, K.check W _ hl, h1, hz, Result.andThen])
  · have hm0 : e0 ∈ es.toList := List.mem_of_getElem? h2
    obtain ⟨s', k1, k2, k3⟩ := hall e0 hm0
    exact .inl ⟨e0.val, by simp [Instr.lookup, run_underlying ht, MapKept.run_getObj_map hb, K.check W _ hl, h1, Result.andThen], s', by rw [← k1, h3], k2, k3⟩

/-- a store of a value that is good for the state -/
theorem memo_store {W : World} {m t e : Nat} {G : List Int → Value → Prop} {v : Value} {s : List Int} (ht : Try.prog.underlying t = some (.map 89 e)) (h : Memo W m G) (hs : Small s) (hG : G s v) :
    ∃ o, (Instr.mapUpdate t (.map (some m)) (keyV s) v).run Try.prog W = .ok () (W.putObj m o) ∧ Memo (W.putObj m o) m G := by
  obtain ⟨es, clk, hb, hall, hpw⟩ := h
  obtain ⟨l, hl⟩ := keyOf_keyV hs
  have K := Try.akey.law
  have hlt : m < W.heap.size := (Array.getElem?_eq_some_iff.1 hb).1
  have hset : ∀ o, (setObj m o).run Try.prog W = .ok () (W.putObj m o) := fun o => by
    simp [setObj, Sem.run, hb, World.putObj]
  rcases K.find W hl es.toList (fun e he => by obtain ⟨s', h1, h2, _⟩ := hall e he; rw [h1]; exact keyOf_keyV h2) with ⟨h1, h2⟩ | ⟨j, e0, h1, h2, h3⟩
  · refine ⟨_, by simp [Instr.mapUpdate, run_underlying ht, MapKept.run_getObj_map hb, K.check W _ hl, h1, Result.andThen, hset], es.push { key := keyV s, val := v, born := clk }, clk + 1, World.putObj_heap_same hlt, ?_, ?_⟩
    rotate_left
    · rw [Array.toList_push, List.pairwise_append]
      exact ⟨hpw, by simp, fun x hx y hy => by simp at hy; subst hy; exact h2 x hx⟩
    intro e he
    simp at he
    rcases he with he | he
    · exact hall e (by simpa using he)
    · subst he; exact ⟨s, rfl, hs, hG⟩
  · have hj : es[j]? = some e0 := by simpa using h2
    have hst := K.stays W hl
    refine ⟨_, by simp [Instr.mapUpdate, run_underlying ht, MapKept.run_getObj_map hb, K.check W _ hl, h1, Result.andThen, hset, hj, h3, hst], es.modify j fun e => { e with key := keyV s, val := v }, clk, World.putObj_heap_same hlt, ?_, ?_⟩
    rotate_left
    · have hmap : (es.modify j fun e => { e with key := keyV s, val := v }).toList.map (·.key) = es.toList.map (·.key) := by
        apply List.ext_getElem?
        intro i
        rw [List.getElem?_map, List.getElem?_map, Array.toList_modify, List.getElem?_modify]
        by_cases hji : j = i
        · subst hji; simp [hj, h3]
        · simp [hji]
      have h4 := (List.pairwise_map (f := fun e : MapEntry => e.key) (R := fun a b => a ≠ b)).2 hpw
      rw [← hmap] at h4
      exact List.pairwise_map.1 h4
    intro e he
    rw [List.mem_iff_getElem?] at he
    obtain ⟨i, hi⟩ := he
    rw [Array.toList_modify, List.getElem?_modify] at hi
    by_cases hji : j = i
    · simp [hji] at hi
      obtain ⟨x, _, rfl⟩ := hi
      exact ⟨s, rfl, hs, hG⟩
    · simp [hji] at hi
      exact hall e (List.mem_of_getElem? (by simpa using hi))
theorem pairwise_same {es : List MapEntry} (h : es.Pairwise (fun x y => x.key ≠ y.key)) {x y : MapEntry} (hx : x ∈ es) (hy : y ∈ es) (hk : x.key = y.key) : x = y := by
  induction es with
  | nil => simp at hx
  | cons a l ih =>
    rw [List.pairwise_cons] at h
    rcases List.mem_cons.1 hx with rfl | hx'
    · rcases List.mem_cons.1 hy with rfl | hy'
      · rfl
      · exact absurd hk (h.1 y hy')
    · rcases List.mem_cons.1 hy with rfl | hy'
      · exact absurd hk.symm (h.1 x hx')
      · exact ih h.2 hx' hy'
end
section
set_option linter.unusedVariables false
open Go.RowKit

theorem splice_get (xs : List Int) (h : xs.length ≤ 6) (j : Nat) (hj : j < 6) : (splice [Value.int .i64 0, .int .i64 0, .int .i64 0, .int .i64 0, .int .i64 0, .int .i64 0] 0 (xs.map (Value.int .i64)))[j]? = some (.int .i64 (xs[j]?.getD 0)) := by
  unfold splice
  by_cases hx : j < xs.length
  · simp [List.getElem?_append_left, hx]
  · have e : xs[j]? = none := List.getElem?_eq_none (by omega)
    simp [e]
    rw [List.getElem?_append_right (by simp; omega)]
    simp
    have : xs.length + (j - xs.length) = j := by omega
    rw [this]
    have : j = 0 ∨ j = 1 ∨ j = 2 ∨ j = 3 ∨ j = 4 ∨ j = 5 := by omega
    rcases this with rfl | rfl | rfl | rfl | rfl | rfl <;> rfl

set_option maxRecDepth 100000 in
set_option maxHeartbeats 400000 in
theorem keyOf_any (a : Option Addr) (n c : Nat) (xs : List Int) (w : World) (hx : Ints w a n xs) (h0 : 0 < n) (hn : n ≤ 6) : Calls Try.prog 57 #[.slice a n c] w fun e w' => e = .returned (keyV xs) ∧ Gr w w' := by
  have hxg := hx.gr (Gr.alloc w (.cells #[.int .i64 0, .int .i64 0, .int .i64 0, .int .i64 0, .int .i64 0, .int .i64 0] 89))
  have hlen := hx.len
  obtain ⟨ad, rfl, hab, _⟩ := hx.at h0
  obtain ⟨w', hw'⟩ : ∃ w' : World, w' = (w.alloc (.cells #[.int .i64 0, .int .i64 0, .int .i64 0, .int .i64 0, .int .i64 0, .int .i64 0] 89)).setRow w.heap.size (splice [.int .i64 0, .int .i64 0, .int .i64 0, .int .i64 0, .int .i64 0, .int .i64 0] 0 (xs.map (Value.int .i64))).toArray := ⟨_, rfl⟩
  have hrun : (Builtin.copy_ #[26, 26] 3 #[.slice (some ⟨w.heap.size, 0, none⟩) 6 6, .slice (some ad) n c]).run Try.prog (w.alloc (.cells #[.int .i64 0, .int .i64 0, .int .i64 0, .int .i64 0, .int .i64 0, .int .i64 0] 89)) = .ok (goInt n) w' := by
    have := run_copy_row (P := Try.prog) (w.alloc (.cells #[.int .i64 0, .int .i64 0, .int .i64 0, .int .i64 0, .int .i64 0, .int .i64 0] 89)) 26 26 3 3 w.heap.size 0 6 6 ad n c _ 89 (xs.map (Value.int .i64)) Try.underlying26 (by kernel_rfl) (World.alloc_heap_new _ _) (by rw [List.length_map, hlen]; exact (Nat.min_eq_left hn).symm) hxg.cells (by simp [hlen]; exact hn) (ints_one xs)
    rw [this, hw']
    simp [splice, hlen]
  have hh : w'.heap[w.heap.size]? = some (.cells (splice [.int .i64 0, .int .i64 0, .int .i64 0, .int .i64 0, .int .i64 0, .int .i64 0] 0 (xs.map (Value.int .i64))).toArray 89 (0, 0)) := by
    rw [hw']; exact (setRow_heap _ _ _ _ _ _ (World.alloc_heap_new _ _))
  have hg : Gr w w' := by
    rw [hw']; exact below_setRow (Gr.alloc _ _) (Nat.le_refl _) _
  have hc : ∀ j, j < 6 → w'.cell? ⟨w.heap.size, j, none⟩ = some (.int .i64 (xs[j]?.getD 0)) := fun j hj => by
    unfold World.cell?
    simp only [hh, List.getElem?_toArray]
    exact splice_get xs (by rw [hlen]; exact hn) j hj
  have hf : ∀ j, w'.frozen? ⟨w.heap.size, j, none⟩ = false := fun j => by
    unfold World.frozen?
    simp [hh]
  have h0 := hc 0 (by decide)
  have h1 := hc 1 (by decide)
  have h2 := hc 2 (by decide)
  have h3 := hc 3 (by decide)
  have h4 := hc 4 (by decide)
  have h5 := hc 5 (by decide)
  clear hc hh hw' hlen
  go_enter Try.func57, Try.ntmps57
  go_wp2
  refine bodyPost_ret (v := keyV xs) (by simp [results, Try.results57, go_sem, keyV, h0, h1, h2, h3, h4, h5]) rfl ⟨rfl, ?_⟩
  exact (((((hg.setCell (Nat.le_refl _) _).setCell (Nat.le_refl _) _).setCell (Nat.le_refl _) _).setCell (Nat.le_refl _) _).setCell (Nat.le_refl _) _).setCell (Nat.le_refl _) _

theorem isNaN_any (x : Int) (w : World) : Calls Try.prog 97 #[.int .i64 x] w fun e w' => e = .returned (.bool false) ∧ w = w' := by
  go_enter Try.func97, Try.ntmps97
  go_wp2
  go_ret
  exact ⟨by simp, rfl⟩

/-- -1, 0, 1 -/
def cmpI (x y : Int) : Int := if x < y then -1 else if y < x then 1 else 0

theorem compare_any (x y : Int) (w : World) : Calls Try.prog 83 #[.int .i64 x, .int .i64 y] w fun e w' => e = .returned (.int .i64 (cmpI x y)) ∧ w = w' := by
  by_cases h1 : x < y
  · have hc := Lib.hid (show cmpI x y = -1 by simp [cmpI, h1])
    go_enter Try.func83, Try.ntmps83
    go_wp2_with (go_at_call 97; refine (isNaN_any _ _).mono ?_; rintro e w' ⟨rfl, rfl⟩)
    go_ret
    exact ⟨by rw [hc.out]; rfl, rfl⟩
  · by_cases h2 : y < x
    · have hc := Lib.hid (show cmpI x y = 1 by simp [cmpI, h1, h2])
      go_enter Try.func83, Try.ntmps83
      go_wp2_with (go_at_call 97; refine (isNaN_any _ _).mono ?_; rintro e w' ⟨rfl, rfl⟩)
      go_ret
      exact ⟨by rw [hc.out]; rfl, rfl⟩
    · have hc := Lib.hid (show cmpI x y = 0 by simp [cmpI, h1, h2])
      go_enter Try.func83, Try.ntmps83
      go_wp2_with (go_at_call 97; refine (isNaN_any _ _).mono ?_; rintro e w' ⟨rfl, rfl⟩)
      go_ret
      exact ⟨by rw [hc.out]; rfl, rfl⟩

/-- the first of two that is not 0 -/
def orI (x y : Int) : Int := if x = 0 then y else x
theorem or_any (ad : Addr) (c : Nat) (x y : Int) (w : World) (h0 : w.cell? (ad.add 0) = some (.int .i64 x)) (h1 : w.cell? (ad.add 1) = some (.int .i64 y)) : Calls Try.prog 82 #[.slice (some ad) 2 c] w fun e w' => e = .returned (.int .i64 (orI x y)) ∧ w = w' := by
  have hc : ∀ k : Nat, k < 2 → w.cell? (ad.add k) = some (.int .i64 (if k = 0 then x else y)) := fun k hk => by
    have : k = 0 ∨ k = 1 := by omega
    rcases this with rfl | rfl
    · simpa using h0
    · simpa using h1
  have HC := Lib.hid hc
  clear hc h0 h1
  go_enter Try.func82, Try.ntmps82
  go_wp2
  go_loop [8] (fun i => ∃ k : Nat, k ≤ 2 ∧ i = .int .i64 k ∧ (1 ≤ k → Hid (x = 0)) ∧ (2 ≤ k → Hid (y = 0))) (fun i => 2 - (intOf i).toNat)
  case atStart => exact ⟨0, by omega, rfl, by omega, by omega⟩
  case round =>
    obtain ⟨k, hk, rfl, hx, hy⟩ := hrel
    by_cases hlt : k < 2
    · have hcell := HC.out k hlt
      generalize hz : (if k = 0 then x else y) = z at hcell
      have HZ := Lib.hid hz
      clear hz
      cases hb : (z != 0) with
      | true =>
        go_wp2
        go_ret
        refine ⟨ret_int ?_, rfl⟩
        have hz0 : z ≠ 0 := by simpa using hb
        have := HZ.out
        have hk01 : k = 0 ∨ k = 1 := by omega
        rcases hk01 with rfl | rfl
        · simp at this; subst this; unfold orI; rw [if_neg hz0]
        · simp at this; subst this; unfold orI; rw [if_pos (hx (by omega)).out]
      | false =>
        go_wp2
        go_round
        case rel =>
          have hz0 : z = 0 := by simpa using hb
          have := HZ.out
          refine ⟨k + 1, by omega, by go_num, fun _ => Lib.hid ?_, fun h2 => Lib.hid ?_⟩
          · by_cases e : k = 0
            · simp [e] at this; omega
            · exact (hx (by omega)).out
          · have e : k = 1 := by omega
            simp [e] at this; omega
        case measure => simp [intOf]; omega
    · obtain rfl : k = 2 := by omega
      go_wp2
      go_ret
      have hx0 := (hx (by omega)).out
      have hy0 := (hy (by omega)).out
      exact ⟨ret_int (by simp [orI, hx0, hy0]), rfl⟩
end
section
/-- what is left of a plan -/
structure Rs where
  steps : Int
  time : Int
  nxt : List Int
  is : Bool
def Rs.no : Rs := ⟨0, 0, [], false⟩
def Rs.fin : Rs := ⟨0, 0, [], true⟩
def rsLess (a b : Rs) : Bool := decide (orI (cmpI a.steps b.steps) (cmpI a.time b.time) < 0)
def Rs.via (T : List (List Int)) (s s' : List Int) (x : Rs) : Rs := ⟨x.steps + 1, x.time + dur T s s', s', true⟩

def bestStep (T : List (List Int)) (bu : Int) (s : List Int) (rec : List Int → Rs) (best : Rs) (s' : List Int) : Rs :=
  if stepsB T s s' bu then (if (rec s').is then (if !best.is || rsLess ((rec s').via T s s') best then (rec s').via T s s' else best) else best) else best

def bestF (f : Fl) (to : List Int) (bu : Int) : Nat → List Int → Rs
  | 0, s => if s = to then Rs.fin else Rs.no
  | k + 1, s => if s = to then Rs.fin else if aboveV to s then (enum f s to s.length []).foldl (bestStep f.times bu s (bestF f to bu k)) Rs.no else Rs.no

/-- how far a state is from another one -/
def gapTo (s to : List Int) : Nat → Nat
  | 0 => 0
  | k + 1 => gapTo s to k + (to[k]?.getD 0 - s[k]?.getD 0).toNat
def gap (s to : List Int) : Nat := gapTo s to to.length
def bestV (f : Fl) (to : List Int) (bu : Int) (s : List Int) : Rs := bestF f to bu (gap s to) s

theorem gapTo_le {s t to : List Int} : ∀ k, (∀ c, c < k → s[c]?.getD 0 ≤ t[c]?.getD 0) → gapTo t to k ≤ gapTo s to k := by
  intro k
  induction k with
  | zero => intro _; simp [gapTo]
  | succ k ih =>
    intro h
    have := ih (fun c hc => h c (by omega))
    have := h k (by omega)
    simp only [gapTo]; omega
theorem gapTo_lt {s t to : List Int} : ∀ k, (∀ c, c < k → s[c]?.getD 0 ≤ t[c]?.getD 0) → (∀ c, c < k → t[c]?.getD 0 ≤ to[c]?.getD 0) → (∃ c, c < k ∧ s[c]?.getD 0 ≠ t[c]?.getD 0) → gapTo t to k < gapTo s to k := by
  intro k
  induction k with
  | zero => rintro _ _ ⟨c, hc, _⟩; omega
  | succ k ih =>
    rintro h h2 ⟨c, hc, hne⟩
    simp only [gapTo]
    have hk := h k (by omega)
    have hk2 := h2 k (by omega)
    by_cases e : c = k
    · subst e
      have := gapTo_le (to := to) c (fun c' hc' => h c' (by omega))
      omega
    · have := ih (fun c hc => h c (by omega)) (fun c hc => h2 c (by omega)) ⟨c, by omega, hne⟩
      omega

/-- between two states -/
structure Btw (lo hi s : List Int) : Prop where
  len : s.length = lo.length
  ge : ∀ c, c < lo.length → lo[c]?.getD 0 ≤ s[c]?.getD 0
  le : ∀ c, c < lo.length → s[c]?.getD 0 ≤ hi[c]?.getD 0

theorem enum_btw {f : Fl} {lo hi : List Int} : ∀ (k : Nat) (pre s : List Int), pre.length + k = lo.length → s ∈ enum f lo hi k pre →
    s.length = lo.length ∧ worksB f s = true ∧ (∀ c, c < pre.length → s[c]?.getD 0 = pre[c]?.getD 0) ∧ ∀ c, pre.length ≤ c → c < lo.length → lo[c]?.getD 0 ≤ s[c]?.getD 0 ∧ s[c]?.getD 0 ≤ hi[c]?.getD 0 := by
  intro k
  induction k with
  | zero =>
    intro pre s hl hs
    simp only [enum] at hs
    split at hs
    · simp at hs; subst hs; exact ⟨by omega, by assumption, fun _ _ => rfl, fun c h1 h2 => by omega⟩
    · simp at hs
  | succ k ih =>
    intro pre s hl hs
    simp only [enum, List.mem_flatMap, List.mem_range] at hs
    obtain ⟨i, hi, hs⟩ := hs
    obtain ⟨h1, h2, h3, h4⟩ := ih _ s (by simp; omega) hs
    refine ⟨h1, h2, fun c hc => ?_, fun c hc hlt => ?_⟩
    · rw [h3 c (by simp; omega), List.getElem?_append_left hc]
    · by_cases e : c = pre.length
      · subst e
        rw [h3 _ (by simp)]
        simp
        omega
      · exact h4 c (by simp; omega) hlt
theorem enum_between {f : Fl} {lo hi s : List Int} (hs : s ∈ enum f lo hi lo.length []) : Btw lo hi s ∧ worksB f s = true := by
  obtain ⟨h1, h2, _, h4⟩ := enum_btw lo.length [] s (by simp) hs
  exact ⟨⟨h1, fun c hc => (h4 c (by simp) hc).1, fun c hc => (h4 c (by simp) hc).2⟩, h2⟩

theorem stepsB_true {T : List (List Int)} {s t : List Int} {bu : Int} (h : stepsB T s t bu = true) : aboveV t s = true ∧ s ≠ t ∧ dur T s t ≤ bu := by
  simp only [stepsB, Bool.and_eq_true, Bool.not_eq_true', decide_eq_true_eq, decide_eq_false_iff_not] at h
  exact ⟨h.1.1, h.1.2, h.2⟩

theorem ne_at {s t : List Int} (hl : s.length = t.length) (h : s ≠ t) : ∃ c, c < s.length ∧ s[c]?.getD 0 ≠ t[c]?.getD 0 := by
  by_cases hex : ∃ c, c < s.length ∧ s[c]?.getD 0 ≠ t[c]?.getD 0
  · exact hex
  · exact absurd ((eqUpto_iff hl).1 (fun j hj => Classical.byContradiction fun hne => hex ⟨j, hj, hne⟩)) h

theorem gap_lt {s t to : List Int} {hl : s.length = to.length} (h : Btw s to t) (hne : s ≠ t) : gap t to < gap s to :=
  gapTo_lt to.length (fun c hc => h.ge c (by omega)) (fun c hc => h.le c (by omega)) (by rw [← hl]; exact ne_at h.len.symm hne)

theorem foldl_congr {α β : Type} {g h : β → α → β} : ∀ (l : List α) (b : β), (∀ x ∈ l, ∀ b, g b x = h b x) → l.foldl g b = l.foldl h b := by
  intro l
  induction l with
  | nil => intro b _; rfl
  | cons x l ih =>
    intro b hx
    simp only [List.foldl_cons]
    rw [hx x (by simp), ih _ (fun y hy => hx y (by simp [hy]))]

theorem bestStep_congr {T : List (List Int)} {bu : Int} {s s' : List Int} {r r' : List Int → Rs} (h : stepsB T s s' bu = true → r s' = r' s') (b : Rs) : bestStep T bu s r b s' = bestStep T bu s r' b s' := by
  unfold bestStep
  cases hb : stepsB T s s' bu with
  | false => simp
  | true => rw [h hb]

theorem above_gap_zero {s to : List Int} (hl : s.length = to.length) (ha : aboveV to s = true) (hg : gap s to = 0) : s = to := by
  have hle := aboveV_le ha
  have hz : ∀ k, k ≤ to.length → gapTo s to k = 0 → ∀ c, c < k → s[c]?.getD 0 = to[c]?.getD 0 := by
    intro k
    induction k with
    | zero => intro _ _ c hc; omega
    | succ k ih =>
      intro hk h0 c hc
      simp only [gapTo] at h0
      by_cases e : c = k
      · subst e; have := hle c (by omega); omega
      · exact ih (by omega) (by omega) c (by omega)
  exact (eqUpto_iff hl).1 (fun j hj => hz to.length (Nat.le_refl _) hg j (by omega))

theorem bestF_fuel {f : Fl} {to : List Int} {bu : Int} : ∀ (k k' : Nat) (s : List Int), s.length = to.length → gap s to ≤ k → gap s to ≤ k' → bestF f to bu k s = bestF f to bu k' s := by
  intro k
  induction k with
  | zero =>
    intro k' s hl h0 _
    cases k' with
    | zero => rfl
    | succ k' =>
      simp only [bestF]
      by_cases hs : s = to
      · simp [hs]
      · simp only [hs, if_false]
        rw [if_neg]
        intro ha
        exact hs (above_gap_zero hl ha (by omega))
  | succ k ih =>
    intro k' s hl h0 h1
    cases k' with
    | zero =>
      simp only [bestF]
      by_cases hs : s = to
      · simp [hs]
      · simp only [hs, if_false]
        rw [if_neg]
        intro ha
        exact hs (above_gap_zero hl ha (by omega))
    | succ k' =>
      simp only [bestF]
      by_cases hs : s = to
      · simp [hs]
      · simp only [hs, if_false]
        split
        · refine foldl_congr _ _ (fun x hx b => bestStep_congr (fun hst => ?_) b)
          have hb := (enum_between hx).1
          have hlt := gap_lt (hl := hl) hb (stepsB_true hst).2.1
          exact ih k' x (by rw [hb.len, hl]) (by omega) (by omega)
        · rfl

theorem bestV_eq {f : Fl} {to : List Int} {bu : Int} {s : List Int} (hl : s.length = to.length) :
    bestV f to bu s = if s = to then Rs.fin else if aboveV to s then (enum f s to s.length []).foldl (bestStep f.times bu s (bestV f to bu)) Rs.no else Rs.no := by
  have : bestV f to bu s = bestF f to bu (gap s to + 1) s := bestF_fuel _ _ s hl (Nat.le_refl _) (by omega)
  rw [this]
  simp only [bestF]
  by_cases hs : s = to
  · simp [hs]
  · simp only [hs, if_false]
    split
    · refine foldl_congr _ _ (fun x hx b => bestStep_congr (fun hst => ?_) b)
      have hb := (enum_between hx).1
      have hlt := gap_lt (hl := hl) hb (stepsB_true hst).2.1
      exact bestF_fuel _ _ x (by rw [hb.len, hl]) (by omega) (Nat.le_refl _)
    · rfl

theorem StOk.btw {f : Fl} {lo hi s : List Int} (hlo : StOk f lo) (hhi : StOk f hi) (h : Btw lo hi s) : StOk f s :=
  ⟨by rw [h.len, hlo.len], fun c hc => by
    have h1 := h.ge c (by rw [hlo.len]; exact hc)
    have h2 := h.le c (by rw [hlo.len]; exact hc)
    have := hlo.ver c hc
    have := hhi.ver c hc
    omega⟩

/-- its numbers are bounded -/
structure Rs.Bd (r : Rs) (k : Nat) : Prop where
  s0 : 0 ≤ r.steps
  s1 : r.steps ≤ k
  t0 : 0 ≤ r.time
  t1 : r.time ≤ 60000 * k

theorem bestStep_bd {f : Fl} {bu : Int} {s s' : List Int} {rec : List Int → Rs} {k : Nat} (hok : FlOk f) (hs : StOk f s) (hs' : StOk f s') (hr : stepsB f.times s s' bu = true → (rec s').Bd k) {b : Rs} (hb : b.Bd (k + 1)) : (bestStep f.times bu s rec b s').Bd (k + 1) := by
  unfold bestStep
  cases hst : stepsB f.times s s' bu with
  | false => simpa using hb
  | true =>
    have h := hr hst
    have ha := aboveV_le (stepsB_true hst).1
    have hd := durTo_bd hok (fun c hc => (hs.ver c hc).1) hs' (fun c hc => ha c (by rw [hs'.len]; exact hc)) f.times.length (Nat.le_refl _)
    have hdur : dur f.times s s' = durTo f.times s s' f.times.length := by unfold dur; rw [hs'.len]
    have h6 := hok.n6
    simp only [if_true]
    have := h.s0
    have := h.s1
    have := h.t0
    have := h.t1
    split
    · split
      · exact ⟨by simp only [Rs.via]; omega, by simp only [Rs.via]; omega, by simp only [Rs.via]; omega, by simp only [Rs.via]; omega⟩
      · exact hb
    · exact hb

theorem Rs.Bd.mono {r : Rs} {k k' : Nat} (h : r.Bd k) (hk : k ≤ k') : r.Bd k' := ⟨h.s0, by have := h.s1; omega, h.t0, by have := h.t1; omega⟩

theorem bestF_bd {f : Fl} {to : List Int} {bu : Int} (hok : FlOk f) (hto : StOk f to) : ∀ (k : Nat) (s : List Int), StOk f s → (bestF f to bu k s).Bd k := by
  intro k
  induction k with
  | zero => intro s hs; simp only [bestF]; split <;> exact ⟨by simp [Rs.fin, Rs.no], by simp [Rs.fin, Rs.no], by simp [Rs.fin, Rs.no], by simp [Rs.fin, Rs.no]⟩
  | succ k ih =>
    intro s hs
    simp only [bestF]
    split
    · exact ⟨by simp [Rs.fin], by simp [Rs.fin]; omega, by simp [Rs.fin], by simp [Rs.fin]; omega⟩
    · split
      · have h0 : Rs.no.Bd (k + 1) := ⟨by simp [Rs.no], by simp [Rs.no]; omega, by simp [Rs.no], by simp [Rs.no]; omega⟩
        have : ∀ (l : List (List Int)) (b : Rs), (∀ x ∈ l, StOk f x) → b.Bd (k + 1) → (l.foldl (bestStep f.times bu s (bestF f to bu k)) b).Bd (k + 1) := by
          intro l
          induction l with
          | nil => intro b _ hb; exact hb
          | cons x l ihl =>
            intro b hx hb
            exact ihl _ (fun y hy => hx y (by simp [hy])) (bestStep_bd hok hs (hx x (by simp)) (fun _ => ih x (hx x (by simp))) hb)
        exact this _ _ (fun x hx => hs.btw hto (enum_between hx).1) h0
      · exact ⟨by simp [Rs.no], by simp [Rs.no]; omega, by simp [Rs.no], by simp [Rs.no]; omega⟩

theorem gapTo_bd {f : Fl} {s to : List Int} (hok : FlOk f) (hs : StOk f s) (hto : StOk f to) : ∀ k, k ≤ f.times.length → gapTo s to k ≤ 3 * k := by
  intro k
  induction k with
  | zero => intro _; simp [gapTo]
  | succ k ih =>
    intro hk
    have := ih (by omega)
    have := (hs.ver k (by omega)).1
    have := (hto.ver k (by omega)).2
    have := hok.row k (by omega)
    simp only [gapTo]; omega
theorem bestV_bd {f : Fl} {to : List Int} {bu : Int} (hok : FlOk f) (hto : StOk f to) (s : List Int) (hs : StOk f s) : (bestV f to bu s).Bd 18 :=
  (bestF_bd hok hto _ s hs).mono (by
    have := gapTo_bd hok hs hto to.length (by rw [hto.len]; exact Nat.le_refl _)
    have := hok.n6
    have := hto.len
    unfold gap; omega)
end
section
set_option linter.unusedVariables false
open Go.RowKit

theorem Ints.nil (W : World) : Ints W none 0 [] := ⟨rfl, by omega, fun j hj => by omega⟩
/-- a rest in memory; the next state lies in no block of X -/
def RestV (X : Nat → Prop) (W : World) (v : Value) (r : Rs) : Prop := ∃ a k c, v = .agg #[.int .i64 r.steps, .int .i64 r.time, .slice a k c, .bool r.is] ∧ Ints W a k r.nxt ∧ ∀ ad, a = some ad → ¬ X ad.block ∧ Is3 W ad.block
theorem RestV.only {X S : Nat → Prop} {W W' : World} {v : Value} {r : Rs} (h : RestV X W v r) (g : Only S W W') (hn : NoCells S W) : RestV X W' v r := by
  obtain ⟨a, k, c, h1, h2, h3⟩ := h
  exact ⟨a, k, c, h1, h2.only g hn, fun ad e => ⟨(h3 ad e).1, (h3 ad e).2.onlyN g hn⟩⟩
/-- the blocks of X may turn -/
theorem RestV.onlyX {X S : Nat → Prop} {W W' : World} {v : Value} {r : Rs} (h : RestV X W v r) (g : Only S W W') (hs : ∀ b, S b → X b) : RestV X W' v r := by
  obtain ⟨a, k, c, h1, h2, h3⟩ := h
  exact ⟨a, k, c, h1, h2.onlyAt g (fun ad e hS => (h3 ad e).1 (hs _ hS)), fun ad e => ⟨(h3 ad e).1, (h3 ad e).2.only g (fun hS => (h3 ad e).1 (hs _ hS))⟩⟩
theorem RestV.gr {X : Nat → Prop} {W W' : World} {v : Value} {r : Rs} (h : RestV X W v r) (g : Gr W W') : RestV X W' v r := by
  obtain ⟨a, k, c, h1, h2, h3⟩ := h
  exact ⟨a, k, c, h1, h2.gr g, fun ad e => ⟨(h3 ad e).1, (h3 ad e).2.gr g⟩⟩
theorem RestV.wide {X X' : Nat → Prop} {W : World} {v : Value} {r : Rs} (h : RestV X W v r) (hx : ∀ b, b < W.heap.size → X' b → X b) : RestV X' W v r := by
  obtain ⟨a, k, c, h1, h2, h3⟩ := h
  exact ⟨a, k, c, h1, h2, fun ad e => ⟨fun hX => (h3 ad e).1 (hx _ (h3 ad e).2.lt hX), (h3 ad e).2⟩⟩

/-- the planner's data -/
structure PP where
  bp : Nat
  m : Nat
  ta : Option Addr
  tn : Nat
  tc : Nat
  ca : Option Addr
  cn : Nat
  cc : Nat
  toa : Option Addr
  toc : Nat
  n : Nat
  f : Fl
  to : List Int
  bu : Int

structure PInv (q : PP) (X : Nat → Prop) (W : World) : Prop where
  c0 : W.cell? ⟨q.bp, 0, none⟩ = some (.slice q.ta q.tn q.tc)
  c1 : W.cell? ⟨q.bp, 1, none⟩ = some (.slice q.ca q.cn q.cc)
  c2 : W.cell? ⟨q.bp, 2, none⟩ = some (.slice q.toa q.n q.toc)
  c3 : W.cell? ⟨q.bp, 3, none⟩ = some (.int .i64 q.bu)
  c4 : W.cell? ⟨q.bp, 4, none⟩ = some (.map (some q.m))
  fl : FlAt W q.ta q.tn q.ca q.cn q.f
  ito : Ints W q.toa q.n q.to
  memo : Memo W q.m (fun s v => s.length = q.n ∧ RestV X W v (bestV q.f q.to q.bu s))

structure PHyp (q : PP) : Prop where
  ok : FlOk q.f
  sto : StOk q.f q.to
  nt : q.n = q.f.times.length

theorem PInv.noc {q : PP} {X : Nat → Prop} {W : World} (h : PInv q X W) : NoCells (fun b => b = q.m) W := by
  obtain ⟨es, clk, hb, _, _⟩ := h.memo
  intro b cs t fr e
  subst e
  rw [hb]; intro h; cases h

theorem PInv.of {q : PP} {X : Nat → Prop} {W W' : World} {S : Nat → Prop} (h : PInv q X W) (g : Only S W W') (hn : NoCells S W) (hm : Memo W' q.m (fun s v => s.length = q.n ∧ RestV X W' v (bestV q.f q.to q.bu s))) : PInv q X W' :=
  ⟨g.cellN hn h.c0, g.cellN hn h.c1, g.cellN hn h.c2, g.cellN hn h.c3, g.cellN hn h.c4, h.fl.only g hn, h.ito.only g hn, hm⟩
theorem PInv.gr {q : PP} {X : Nat → Prop} {W W' : World} (h : PInv q X W) (g : Gr W W') : PInv q X W' :=
  ⟨(g.cell (lt_cell h.c0)).trans h.c0, (g.cell (lt_cell h.c1)).trans h.c1, (g.cell (lt_cell h.c2)).trans h.c2, (g.cell (lt_cell h.c3)).trans h.c3, (g.cell (lt_cell h.c4)).trans h.c4, h.fl.gr g, h.ito.gr g,
    h.memo.mono (g.below.block _ h.memo.lt) (fun s v hv => ⟨hv.1, hv.2.gr g⟩)⟩

theorem PInv.wide {q : PP} {X X' : Nat → Prop} {W : World} (h : PInv q X W) (hx : ∀ b, b < W.heap.size → X' b → X b) : PInv q X' W :=
  ⟨h.c0, h.c1, h.c2, h.c3, h.c4, h.fl, h.ito, h.memo.mono rfl (fun _ _ hv => ⟨hv.1, hv.2.wide hx⟩)⟩

theorem frozen_new {w : World} {cs : Array Value} {t : TypeId} {j : Nat} : (w.alloc (.cells cs t)).frozen? ⟨w.heap.size, j, none⟩ = false := by
  have := World.alloc_heap_new w (.cells cs t)
  unfold World.frozen?
  simp only [this]
  simp

/-- three new blocks of cells -/
structure Three (W w3 : World) (A B C : Array Value) : Prop where
  gr : Gr W w3
  sz : w3.heap.size = W.heap.size + 1 + 1 + 1
  a : ∀ j v, A[j]? = some v → w3.cell? ⟨W.heap.size, j, none⟩ = some v
  b : ∀ j v, B[j]? = some v → w3.cell? ⟨W.heap.size + 1, j, none⟩ = some v
  c : ∀ j v, C[j]? = some v → w3.cell? ⟨W.heap.size + 1 + 1, j, none⟩ = some v
  fc : ∀ j, w3.frozen? ⟨W.heap.size + 1 + 1, j, none⟩ = false
  fa : ∀ j, w3.frozen? ⟨W.heap.size, j, none⟩ = false
  fb : ∀ j, w3.frozen? ⟨W.heap.size + 1, j, none⟩ = false
theorem three (W : World) (A B C : Array Value) (t1 t2 t3 : TypeId) : Three W (((W.alloc (.cells A t1)).alloc (.cells B t2)).alloc (.cells C t3)) A B C := by
  have s1 : (W.alloc (.cells A t1)).heap.size = W.heap.size + 1 := by simp
  have s2 : ((W.alloc (.cells A t1)).alloc (.cells B t2)).heap.size = W.heap.size + 1 + 1 := by simp
  have g2 := (Gr.alloc (W.alloc (.cells A t1)) (.cells B t2)).allocR (.cells C t3)
  have g3 := Gr.alloc ((W.alloc (.cells A t1)).alloc (.cells B t2)) (.cells C t3)
  refine ⟨((Gr.alloc _ _).allocR _).allocR _, by simp, fun j v h => ?_, fun j v h => ?_, fun j v h => ?_, fun j => ?_, fun j => ?_, fun j => ?_⟩
  · exact (g2.cell (by simp)).trans (cell_new h)
  · rw [← s1]; exact (g3.cell (by simp)).trans (cell_new h)
  · rw [← s2]; exact cell_new h
  · rw [← s2]; exact frozen_new
  · exact (g2.frozen (by simp)).trans frozen_new
  · rw [← s1]; exact (g3.frozen (by simp)).trans frozen_new

def BPost (q : PP) (X : Nat → Prop) (W : World) (s : List Int) (e : Ending) (W' : World) : Prop := ∃ v, e = .returned v ∧ RestV X W' v (bestV q.f q.to q.bu s) ∧ PInv q X W' ∧ Only (fun b => b = q.m) W W'

/-- the boxes of a call of best -/
structure BLoc (q : PP) (W w : World) (a : Option Addr) (c : Nat) : Prop where
  gr : Gr W w
  b2 : w.cell? ⟨W.heap.size, 0, none⟩ = some (.pointer (some ⟨q.bp, 0, none⟩))
  b3 : w.cell? ⟨W.heap.size + 1, 0, none⟩ = some (.slice a q.n c)
  b40 : w.cell? ⟨W.heap.size + 1 + 1, 0, none⟩ = some (.int .i64 0)
  b41 : w.cell? ⟨W.heap.size + 1 + 1, 1, none⟩ = some (.int .i64 0)
  b42 : w.cell? ⟨W.heap.size + 1 + 1, 2, none⟩ = some (.slice none 0 0)
  b43 : w.cell? ⟨W.heap.size + 1 + 1, 3, none⟩ = some (.bool false)
  f40 : w.frozen? ⟨W.heap.size + 1 + 1, 0, none⟩ = false
  f41 : w.frozen? ⟨W.heap.size + 1 + 1, 1, none⟩ = false
  f42 : w.frozen? ⟨W.heap.size + 1 + 1, 2, none⟩ = false
  f43 : w.frozen? ⟨W.heap.size + 1 + 1, 3, none⟩ = false
  f2 : w.frozen? ⟨W.heap.size, 0, none⟩ = false
  f3 : w.frozen? ⟨W.heap.size + 1, 0, none⟩ = false
theorem BLoc.start (q : PP) (W : World) (a : Option Addr) (c : Nat) : BLoc q W (((W.alloc (.cells #[.pointer (some ⟨q.bp, 0, none⟩)] 74)).alloc (.cells #[.slice a q.n c] 26)).alloc (.cells #[.int .i64 0, .int .i64 0, .slice none 0 0, .bool false] 79)) a c := by
  have h3 := three W #[.pointer (some ⟨q.bp, 0, none⟩)] #[.slice a q.n c] #[.int .i64 0, .int .i64 0, .slice none 0 0, .bool false] 74 26 79
  exact ⟨h3.gr, h3.a 0 _ rfl, h3.b 0 _ rfl, h3.c 0 _ rfl, h3.c 1 _ rfl, h3.c 2 _ rfl, h3.c 3 _ rfl, h3.fc 0, h3.fc 1, h3.fc 2, h3.fc 3, h3.fa 0, h3.fb 0⟩
theorem BLoc.then {q : PP} {W w w' : World} {a : Option Addr} {c : Nat} (h : BLoc q W w a c) (g : Gr w w') : BLoc q W w' a c :=
  ⟨h.gr.trans g, (g.cell (lt_cell h.b2)).trans h.b2, (g.cell (lt_cell h.b3)).trans h.b3, (g.cell (lt_cell h.b40)).trans h.b40, (g.cell (lt_cell h.b41)).trans h.b41, (g.cell (lt_cell h.b42)).trans h.b42, (g.cell (lt_cell h.b43)).trans h.b43,
    (g.frozen (lt_cell h.b40)).trans h.f40, (g.frozen (lt_cell h.b41)).trans h.f41, (g.frozen (lt_cell h.b42)).trans h.f42, (g.frozen (lt_cell h.b43)).trans h.f43, (g.frozen (lt_cell h.b2)).trans h.f2, (g.frozen (lt_cell h.b3)).trans h.f3⟩

/-- what is stored into the result -/
theorem BLoc.store {q : PP} {W w : World} {a : Option Addr} {c : Nat} (h : BLoc q W w a c) (v0 v1 v2 v3 : Value) :
    Gr W ((((w.setCell ⟨W.heap.size + 1 + 1, 0, none⟩ v0).setCell ⟨W.heap.size + 1 + 1, 1, none⟩ v1).setCell ⟨W.heap.size + 1 + 1, 2, none⟩ v2).setCell ⟨W.heap.size + 1 + 1, 3, none⟩ v3) :=
  (((h.gr.setCell (by simp only; omega) v0).setCell (by simp only; omega) v1).setCell (by simp only; omega) v2).setCell (by simp only; omega) v3

theorem drewN_some (w : World) (n : Nat) : ∃ w4, w.drewN n = w4 ∧ Gr w w4 := ⟨_, rfl, Gr.drewN _ _⟩

set_option maxRecDepth 100000 in
set_option maxHeartbeats 1000000 in
theorem best_end (q : PP) (H : PHyp q) (X : Nat → Prop) (s : List Int) (W : World) (a : Option Addr) (c : Nat) (hI : PInv q X W) (hs : Ints W a q.n s) (he : s = q.to) :
    Calls Try.prog 49 #[.pointer (some ⟨q.bp, 0, none⟩), .slice a q.n c] W (BPost q X W s) := by
  have hv : Hid (bestV q.f q.to q.bu s = Rs.fin) := Lib.hid (by rw [bestV_eq (by rw [he]), if_pos he])
  have hde : Hid (decide (s = q.to) = true) := Lib.hid (by simpa using he)
  clear he
  have hL := BLoc.start q W a c
  obtain ⟨w3, hw3⟩ : ∃ w3, ((W.alloc (.cells #[.pointer (some ⟨q.bp, 0, none⟩)] 74)).alloc (.cells #[.slice a q.n c] 26)).alloc (.cells #[.int .i64 0, .int .i64 0, .slice none 0 0, .bool false] 79) = w3 := ⟨_, rfl⟩
  rw [hw3] at hL
  have hI3 := hI.gr hL.gr
  have hs3 := hs.gr hL.gr
  have hc2 := hI3.c2
  have b2 := hL.b2
  have b3 := hL.b3
  have heq : ∀ k, Hid (Calls Try.prog 50 #[.slice a q.n c, .slice q.toa q.n q.toc] (w3.drewN k) fun e w' => e = .returned (.bool true) ∧ ∃ m, w' = (w3.drewN k).drewN m) := fun k => Lib.hid (by
    have := equal_any a q.toa q.n c q.n q.toc s q.to (w3.drewN k) (hs3.gr (Gr.drewN _ _)) (hI3.ito.gr (Gr.drewN _ _))
    rw [hde.out] at this
    exact this)
  have HEQ := Lib.hid heq
  clear heq
  go_enter Try.func49, Try.ntmps49
  go_wp2_with fail
  clear hw3
  go_quiet ((go_at_call 50; exact Calls.quiet_of (HEQ.out _).out))
  obtain ⟨w4, hw4, g4⟩ := drewN_some w3 nq
  rw [hw4]
  clear hw4
  have hL4 := hL.then g4
  have b40 := hL4.b40
  have b41 := hL4.b41
  have b42 := hL4.b42
  have b43 := hL4.b43
  have f40 := hL4.f40
  have f41 := hL4.f41
  have f42 := hL4.f42
  have f43 := hL4.f43
  go_wp2_with fail
  have G := hL4.store
  exact bodyPost_ret (v := .agg #[.int .i64 0, .int .i64 0, .slice none 0 0, .bool true]) (by simp [results, Try.results49, go_sem, b40, b41, b42, b43]) rfl
    ⟨_, rfl, ⟨none, 0, 0, by rw [hv.out]; rfl, by rw [hv.out]; exact Ints.nil _, (fun ad h => by cases h)⟩, hI.gr (G _ _ _ _), (G _ _ _ _).only _⟩

set_option maxRecDepth 100000 in
set_option maxHeartbeats 1000000 in
theorem best_not (q : PP) (H : PHyp q) (X : Nat → Prop) (s : List Int) (W : World) (a : Option Addr) (c : Nat) (hI : PInv q X W) (hs : Ints W a q.n s) (he : ¬ s = q.to) (hna : aboveV q.to s = false) :
    Calls Try.prog 49 #[.pointer (some ⟨q.bp, 0, none⟩), .slice a q.n c] W (BPost q X W s) := by
  have hv : Hid (bestV q.f q.to q.bu s = Rs.no) := Lib.hid (by rw [bestV_eq (by rw [hs.len, hI.ito.len]), if_neg he, hna]; simp)
  have hde : Hid (decide (s = q.to) = false) := Lib.hid (by simpa using he)
  have hda := Lib.hid hna
  clear he hna
  have hL := BLoc.start q W a c
  obtain ⟨w3, hw3⟩ : ∃ w3, ((W.alloc (.cells #[.pointer (some ⟨q.bp, 0, none⟩)] 74)).alloc (.cells #[.slice a q.n c] 26)).alloc (.cells #[.int .i64 0, .int .i64 0, .slice none 0 0, .bool false] 79) = w3 := ⟨_, rfl⟩
  rw [hw3] at hL
  have hI3 := hI.gr hL.gr
  have hs3 := hs.gr hL.gr
  have hc2 := hI3.c2
  have b2 := hL.b2
  have b3 := hL.b3
  have heq : ∀ k, Hid (Calls Try.prog 50 #[.slice a q.n c, .slice q.toa q.n q.toc] (w3.drewN k) fun e w' => e = .returned (.bool false) ∧ ∃ m, w' = (w3.drewN k).drewN m) := fun k => Lib.hid (by
    have := equal_any a q.toa q.n c q.n q.toc s q.to (w3.drewN k) (hs3.gr (Gr.drewN _ _)) (hI3.ito.gr (Gr.drewN _ _))
    rw [hde.out] at this
    exact this)
  have HEQ := Lib.hid heq
  clear heq
  go_enter Try.func49, Try.ntmps49
  go_wp2_with fail
  clear hw3
  go_quiet ((go_at_call 50; exact Calls.quiet_of (HEQ.out _).out))
  obtain ⟨w4, hw4, g4⟩ := drewN_some w3 nq
  rw [hw4]
  clear hw4 b2 b3 hc2
  have hL4 := hL.then g4
  have hI4 := hI3.gr g4
  have hs4 := hs3.gr g4
  have hc2 := hI4.c2
  have b2 := hL4.b2
  have b3 := hL4.b3
  have hab : ∀ k, Hid (Calls Try.prog 55 #[.slice q.toa q.n q.toc, .slice a q.n c] (w4.drewN k) fun e w' => e = .returned (.bool false) ∧ ∃ m, w' = (w4.drewN k).drewN m) := fun k => Lib.hid (by
    have := above_any q.toa a q.n q.toc q.n c q.to s (w4.drewN k) (hI4.ito.gr (Gr.drewN _ _)) (hs4.gr (Gr.drewN _ _)) (Nat.le_refl _)
    rw [hda.out] at this
    exact this)
  have HAB := Lib.hid hab
  clear hab
  go_wp2_with fail
  go_quiet ((go_at_call 55; exact Calls.quiet_of (HAB.out _).out))
  obtain ⟨w5, hw5, g5⟩ := drewN_some w4 nq
  rw [hw5]
  clear hw5 b2 b3 hc2
  have hL5 := hL4.then g5
  have b40 := hL5.b40
  have b41 := hL5.b41
  have b42 := hL5.b42
  have b43 := hL5.b43
  have f40 := hL5.f40
  have f41 := hL5.f41
  have f42 := hL5.f42
  have f43 := hL5.f43
  go_wp2_with fail
  have G := hL5.store
  exact bodyPost_ret (v := .agg #[.int .i64 0, .int .i64 0, .slice none 0 0, .bool false]) (by simp [results, Try.results49, go_sem, b40, b41, b42, b43]) rfl
    ⟨_, rfl, ⟨none, 0, 0, by rw [hv.out]; rfl, by rw [hv.out]; exact Ints.nil _, (fun ad h => by cases h)⟩, hI.gr (G _ _ _ _), (G _ _ _ _).only _⟩
end
section
open Go.RowKit

/-- region 6 of best: a new block for what the memo holds -/
structure R6 (w6 : World) (v0 v1 v2 v3 : Value) (done : Nat → Bool) (W : World) : Prop where
  gr : Gr w6 W
  sz : done 9 = false → W.heap.size = w6.heap.size
  fz : done 9 = true → ∀ j, W.frozen? ⟨w6.heap.size, j, none⟩ = false
  ce : done 9 = true → done 10 = false → W.cell? ⟨w6.heap.size, 0, none⟩ = some (.int .i64 0) ∧ W.cell? ⟨w6.heap.size, 1, none⟩ = some (.int .i64 0) ∧ W.cell? ⟨w6.heap.size, 2, none⟩ = some (.slice none 0 0) ∧ W.cell? ⟨w6.heap.size, 3, none⟩ = some (.bool false)
  st : done 10 = true → W.cell? ⟨w6.heap.size, 0, none⟩ = some v0 ∧ W.cell? ⟨w6.heap.size, 1, none⟩ = some v1 ∧ W.cell? ⟨w6.heap.size, 2, none⟩ = some v2 ∧ W.cell? ⟨w6.heap.size, 3, none⟩ = some v3

theorem R6.start (w6 : World) (v0 v1 v2 v3 : Value) : R6 w6 v0 v1 v2 v3 (fun _ => false) w6.drew := ⟨Gr.drew _, fun _ => rfl, (fun h => by cases h), (fun h => by cases h), (fun h => by cases h)⟩
theorem R6.quiet {w6 W : World} {v0 v1 v2 v3 : Value} {done : Nat → Bool} (h : R6 w6 v0 v1 v2 v3 done W) {i : Nat} (h9 : 9 ≠ i) (h10 : 10 ≠ i) : R6 w6 v0 v1 v2 v3 (upd done i) W := by
  refine ⟨h.gr, ?_, ?_, ?_, ?_⟩ <;> simp only [upd_ne h9, upd_ne h10]
  · exact h.sz
  · exact h.fz
  · exact h.ce
  · exact h.st
theorem R6.alloc {w6 W : World} {v0 v1 v2 v3 : Value} {done : Nat → Bool} (h : R6 w6 v0 v1 v2 v3 done W) (hsz : W.heap.size = w6.heap.size) (h10 : done 10 = false) :
    R6 w6 v0 v1 v2 v3 (upd done 9) (W.alloc (.cells #[.int .i64 0, .int .i64 0, .slice none 0 0, .bool false] 79)) := by
  refine ⟨h.gr.allocR _, (fun h => by rw [upd_self] at h; cases h), fun _ j => by rw [← hsz]; exact frozen_new, fun _ _ => ?_, (fun h => by rw [upd_ne (by decide), h10] at h; cases h)⟩
  rw [← hsz]
  exact ⟨cell_new rfl, cell_new rfl, cell_new rfl, cell_new rfl⟩
theorem setCell4 {w : World} {b : Nat} {x0 x1 x2 x3 : Value} (h0 : w.cell? ⟨b, 0, none⟩ = some x0) (h1 : w.cell? ⟨b, 1, none⟩ = some x1) (h2 : w.cell? ⟨b, 2, none⟩ = some x2) (h3 : w.cell? ⟨b, 3, none⟩ = some x3) (v0 v1 v2 v3 : Value) (W' : World)
    (hW : W' = (((w.setCell ⟨b, 0, none⟩ v0).setCell ⟨b, 1, none⟩ v1).setCell ⟨b, 2, none⟩ v2).setCell ⟨b, 3, none⟩ v3) :
    W'.cell? ⟨b, 0, none⟩ = some v0 ∧ W'.cell? ⟨b, 1, none⟩ = some v1 ∧ W'.cell? ⟨b, 2, none⟩ = some v2 ∧ W'.cell? ⟨b, 3, none⟩ = some v3 ∧ (∀ j, W'.frozen? ⟨b, j, none⟩ = w.frozen? ⟨b, j, none⟩) ∧ W'.heap.size = w.heap.size ∧ (∀ a, a ≠ b → W'.heap[a]? = w.heap[a]?) := by
  subst hW
  refine ⟨?_, ?_, ?_, ?_, ?_, ?_, ?_⟩
  · simp [go_sem, h0]
  · simp [go_sem, h1]
  · simp [go_sem, h2]
  · simp [go_sem, h3]
  · intro j; simp
  · simp
  · intro a ha
    rw [Below.heap_setCell _ _ _ _ ha, Below.heap_setCell _ _ _ _ ha, Below.heap_setCell _ _ _ _ ha, Below.heap_setCell _ _ _ _ ha]
theorem R6.stored {w6 W : World} {v0 v1 v2 v3 : Value} {done : Nat → Bool} (h : R6 w6 v0 v1 v2 v3 done W) (h9 : done 9 = true) (h10 : done 10 = false) :
    R6 w6 v0 v1 v2 v3 (upd done 10) ((((W.setCell ⟨w6.heap.size, 0, none⟩ v0).setCell ⟨w6.heap.size, 1, none⟩ v1).setCell ⟨w6.heap.size, 2, none⟩ v2).setCell ⟨w6.heap.size, 3, none⟩ v3) := by
  obtain ⟨z0, z1, z2, z3⟩ := h.ce h9 h10
  obtain ⟨s0, s1, s2, s3, s4, s5, s6⟩ := setCell4 z0 z1 z2 z3 v0 v1 v2 v3 _ rfl
  refine ⟨(((h.gr.setCell (Nat.le_refl _) _).setCell (Nat.le_refl _) _).setCell (Nat.le_refl _) _).setCell (Nat.le_refl _) _, (fun h => by rw [upd_ne (by decide), h9] at h; cases h), fun _ j => by rw [s4]; exact h.fz h9 j, (fun _ h => by rw [upd_self] at h; cases h), fun _ => ⟨s0, s1, s2, s3⟩⟩

theorem StOk.small {f : Fl} {s : List Int} (hok : FlOk f) (h : StOk f s) : Small s := fun c => by
  by_cases hc : c < f.times.length
  · have h1 := h.ver c hc
    have h2 := hok.row c hc
    omega
  · rw [List.getElem?_eq_none (by rw [h.len]; omega)]; simp

/-- the boxes of best behind its key -/
structure BKey (q : PP) (X : Nat → Prop) (W w : World) (a : Option Addr) (c : Nat) (kb : Nat) (s : List Int) : Prop where
  loc : BLoc q W w a c
  inv : PInv q X w
  is : Ints w a q.n s
  kge : W.heap.size + 1 + 1 < kb
  k0 : w.cell? ⟨kb, 0, none⟩ = some (.int .i64 (s[0]?.getD 0))
  k1 : w.cell? ⟨kb, 1, none⟩ = some (.int .i64 (s[1]?.getD 0))
  k2 : w.cell? ⟨kb, 2, none⟩ = some (.int .i64 (s[2]?.getD 0))
  k3 : w.cell? ⟨kb, 3, none⟩ = some (.int .i64 (s[3]?.getD 0))
  k4 : w.cell? ⟨kb, 4, none⟩ = some (.int .i64 (s[4]?.getD 0))
  k5 : w.cell? ⟨kb, 5, none⟩ = some (.int .i64 (s[5]?.getD 0))
  kf : ∀ j, w.frozen? ⟨kb, j, none⟩ = false

theorem BKey.then {q : PP} {X : Nat → Prop} {W w w' : World} {a : Option Addr} {c kb : Nat} {s : List Int} (h : BKey q X W w a c kb s) (g : Gr w w') : BKey q X W w' a c kb s :=
  ⟨h.loc.then g, h.inv.gr g, h.is.gr g, h.kge, (g.cell (lt_cell h.k0)).trans h.k0, (g.cell (lt_cell h.k1)).trans h.k1, (g.cell (lt_cell h.k2)).trans h.k2, (g.cell (lt_cell h.k3)).trans h.k3, (g.cell (lt_cell h.k4)).trans h.k4, (g.cell (lt_cell h.k5)).trans h.k5, fun j => (g.frozen (p := ⟨kb, j, none⟩) (show kb < w.heap.size from lt_cell (p := ⟨kb, 0, none⟩) h.k0)).trans (h.kf j)⟩

theorem BKey.of {q : PP} {X : Nat → Prop} {W w : World} {a : Option Addr} {c : Nat} {s : List Int} (hL : BLoc q W w a c) (hI : PInv q X w) (hs : Ints w a q.n s) :
    BKey q X W (w.alloc (.cells #[.int .i64 (s[0]?.getD 0), .int .i64 (s[1]?.getD 0), .int .i64 (s[2]?.getD 0), .int .i64 (s[3]?.getD 0), .int .i64 (s[4]?.getD 0), .int .i64 (s[5]?.getD 0)] 89)) a c w.heap.size s :=
  ⟨hL.then (Gr.alloc _ _), hI.gr (Gr.alloc _ _), hs.gr (Gr.alloc _ _), lt_cell hL.b40, cell_new rfl, cell_new rfl, cell_new rfl, cell_new rfl, cell_new rfl, cell_new rfl, fun _ => frozen_new⟩

theorem Try.zero79 (w : World) : (zeroValue 79).run Try.prog w = .ok (.agg #[.int .i64 0, .int .i64 0, .slice none 0 0, .bool false]) w := by kernel_rfl

/-- what a lookup in the memo gives -/
theorem best_lookup {q : PP} (H : PHyp q) {X : Nat → Prop} {s : List Int} {w : World} (hI : PInv q X w) (hst : StOk q.f s) (hl : s.length = q.n) :
    ∃ (st ti : Int) (xa : Option Addr) (xk xc : Nat) (xb b : Bool), (∀ W : World, W.heap[q.m]? = w.heap[q.m]? → (Instr.lookup 75 (.map (some q.m)) (.agg #[.int .i64 (s[0]?.getD 0), .int .i64 (s[1]?.getD 0), .int .i64 (s[2]?.getD 0), .int .i64 (s[3]?.getD 0), .int .i64 (s[4]?.getD 0), .int .i64 (s[5]?.getD 0)]) true).run Try.prog W = .ok (.tuple #[.agg #[.int .i64 st, .int .i64 ti, .slice xa xk xc, .bool xb], .bool b]) W) ∧
      (b = true → RestV X w (.agg #[.int .i64 st, .int .i64 ti, .slice xa xk xc, .bool xb]) (bestV q.f q.to q.bu s)) := by
  obtain ⟨es, clk, hb, hall, hpw⟩ := hI.memo
  have hsm := hst.small H.ok
  obtain ⟨l, hlk⟩ := keyOf_keyV hsm
  have K := Try.akey.law
  have hkeys : ∀ e ∈ es.toList, ∃ l, keyOf Try.prog 89 e.key = some l := fun e he => by obtain ⟨s', h1, h2, _⟩ := hall e he; rw [h1]; exact keyOf_keyV h2
  rcases K.find w hlk es.toList hkeys with ⟨h1, h2⟩ | ⟨j, e0, h1, h2, h3⟩
  · refine ⟨0, 0, none, 0, 0, false, false, fun W hW => ?_, fun h => by cases h⟩
    rcases K.find W hlk es.toList hkeys with ⟨h1', h2'⟩ | ⟨j', e0', h1', h2', h3'⟩
    · have hbW := hW.trans hb
      show (Instr.lookup 75 (.map (some q.m)) (keyV s) true).run Try.prog W = _
      simp [Instr.lookup, run_underlying Try.underlying75, MapKept.run_getObj_map hbW, K.check W _ hlk, h1']
    · exact absurd h3' (h2 e0' (List.mem_of_getElem? h2'))
  · have hm0 : e0 ∈ es.toList := List.mem_of_getElem? h2
    obtain ⟨s', k1, k2, k3, k4⟩ := hall e0 hm0
    have hss : s' = s := keyV_inj (by rw [k3, hl]) (by rw [k3, H.nt]; exact H.ok.n6) (by rw [← k1, h3])
    subst hss
    obtain ⟨a, k, c, hv, hi, h3t⟩ := k4
    refine ⟨_, _, _, _, _, _, true, fun W hW => ?_, fun _ => ⟨a, k, c, rfl, hi, h3t⟩⟩
    rcases K.find W hlk es.toList hkeys with ⟨h1', h2'⟩ | ⟨j', e0', h1', h2', h3'⟩
    · exact absurd h3 (h2' e0 hm0)
    · have hm0' : e0' ∈ es.toList := List.mem_of_getElem? h2'
      have hbW := hW.trans hb
      show (Instr.lookup 75 (.map (some q.m)) (keyV s') true).run Try.prog W = _
      simp [Instr.lookup, run_underlying Try.underlying75, MapKept.run_getObj_map hbW, K.check W _ hlk, h1', Result.andThen]
      rw [pairwise_same hpw hm0' hm0 (by rw [h3', h3]), hv]
end
section
open Go.RowKit

/-- X, and the blocks from lo to hi -/
def XL (X : Nat → Prop) (lo hi : Nat) : Nat → Prop := fun b => X b ∨ (lo ≤ b ∧ b ≤ hi)

def bestL (q : PP) (W : World) (a : Option Addr) (c kb : Nat) (s : List Int) : List (Addr × Value) :=
  [(⟨W.heap.size, 0, none⟩, .pointer (some ⟨q.bp, 0, none⟩)), (⟨W.heap.size + 1, 0, none⟩, .slice a q.n c),
    (⟨W.heap.size + 1 + 1, 0, none⟩, .int .i64 0), (⟨W.heap.size + 1 + 1, 1, none⟩, .int .i64 0), (⟨W.heap.size + 1 + 1, 2, none⟩, .slice none 0 0), (⟨W.heap.size + 1 + 1, 3, none⟩, .bool false),
    (⟨kb, 0, none⟩, .int .i64 (s[0]?.getD 0)), (⟨kb, 1, none⟩, .int .i64 (s[1]?.getD 0)), (⟨kb, 2, none⟩, .int .i64 (s[2]?.getD 0)), (⟨kb, 3, none⟩, .int .i64 (s[3]?.getD 0)), (⟨kb, 4, none⟩, .int .i64 (s[4]?.getD 0)), (⟨kb, 5, none⟩, .int .i64 (s[5]?.getD 0))]
def restL (b : Nat) (r : Rs) (a : Option Addr) (k c : Nat) : List (Addr × Value) :=
  [(⟨b, 0, none⟩, .int .i64 r.steps), (⟨b, 1, none⟩, .int .i64 r.time), (⟨b, 2, none⟩, .slice a k c), (⟨b, 3, none⟩, .bool r.is)]

def foldV (q : PP) (s : List Int) (done : List (List Int)) : Rs := done.foldl (bestStep q.f.times q.bu s (bestV q.f q.to q.bu)) Rs.no

structure BI (q : PP) (X : Nat → Prop) (W : World) (s : List Int) (a : Option Addr) (c kb b8 D : Nat) (done : List (List Int)) (w : World) : Prop where
  on : Only (fun b => b = q.m ∨ W.heap.size ≤ b) W w
  loc : LCells w (bestL q W a c kb s)
  memo : Memo w q.m (fun s v => s.length = q.n ∧ RestV (XL X W.heap.size (D + 4)) w v (bestV q.f q.to q.bu s))
  best : ∃ a' k' c', LCells w (restL b8 (foldV q s done) a' k' c') ∧ Ints w a' k' (foldV q s done).nxt ∧ ∀ ad, a' = some ad → D + 4 < ad.block ∧ Is3 w ad.block

theorem PInv.nocS {q : PP} {X : Nat → Prop} {W : World} (h : PInv q X W) : NoCells (fun b => b = q.m ∨ W.heap.size ≤ b) W := by
  intro b cs t fr hs hb
  rcases hs with hs | hs
  · exact h.noc b cs t fr hs hb
  · have := (Array.getElem?_eq_some_iff.1 hb).1; omega

theorem BI.inv {q : PP} {X : Nat → Prop} {W w : World} {s : List Int} {a : Option Addr} {c kb b8 D : Nat} {done : List (List Int)} (h : BI q X W s a c kb b8 D done w) (hI : PInv q X W) : PInv q (XL X W.heap.size (D + 4)) w :=
  ⟨h.on.cellN hI.nocS hI.c0, h.on.cellN hI.nocS hI.c1, h.on.cellN hI.nocS hI.c2, h.on.cellN hI.nocS hI.c3, h.on.cellN hI.nocS hI.c4, hI.fl.only h.on hI.nocS, hI.ito.only h.on hI.nocS, h.memo⟩

theorem bestL_blocks {q : PP} {W : World} {a : Option Addr} {c kb : Nat} {s : List Int} : ∀ p ∈ bestL q W a c kb s, p.1.block = W.heap.size ∨ p.1.block = W.heap.size + 1 ∨ p.1.block = W.heap.size + 1 + 1 ∨ p.1.block = kb := by
  intro p hp
  simp only [bestL, List.mem_cons, List.not_mem_nil, or_false] at hp
  rcases hp with rfl | rfl | rfl | rfl | rfl | rfl | rfl | rfl | rfl | rfl | rfl | rfl <;> simp
theorem restL_blocks {b : Nat} {r : Rs} {a : Option Addr} {k c : Nat} : ∀ p ∈ restL b r a k c, p.1.block = b := by
  intro p hp
  simp only [restL, List.mem_cons, List.not_mem_nil, or_false] at hp
  rcases hp with rfl | rfl | rfl | rfl <;> rfl

theorem BKey.cells {q : PP} {X : Nat → Prop} {W w : World} {a : Option Addr} {c kb : Nat} {s : List Int} (h : BKey q X W w a c kb s) : LCells w (bestL q W a c kb s) := by
  intro p hp
  simp only [bestL, List.mem_cons, List.not_mem_nil, or_false] at hp
  rcases hp with rfl | rfl | rfl | rfl | rfl | rfl | rfl | rfl | rfl | rfl | rfl | rfl
  · exact ⟨h.loc.b2, h.loc.f2⟩
  · exact ⟨h.loc.b3, h.loc.f3⟩
  · exact ⟨h.loc.b40, h.loc.f40⟩
  · exact ⟨h.loc.b41, h.loc.f41⟩
  · exact ⟨h.loc.b42, h.loc.f42⟩
  · exact ⟨h.loc.b43, h.loc.f43⟩
  · exact ⟨h.k0, h.kf 0⟩
  · exact ⟨h.k1, h.kf 1⟩
  · exact ⟨h.k2, h.kf 2⟩
  · exact ⟨h.k3, h.kf 3⟩
  · exact ⟨h.k4, h.kf 4⟩
  · exact ⟨h.k5, h.kf 5⟩

/-- how the numbers of the blocks lie -/
structure BNum (q : PP) (W : World) (kb b8 D : Nat) : Prop where
  i1 : q.m < W.heap.size
  i2 : W.heap.size + 1 + 1 < kb
  i3 : kb < b8
  i4 : b8 < D

/-- the loop's own block, the iterator's buffer, and new blocks may turn -/
theorem BI.keep {q : PP} {X : Nat → Prop} {W w w' : World} {s : List Int} {a : Option Addr} {c kb b8 D : Nat} {done : List (List Int)} (h : BI q X W s a c kb b8 D done w) (hn : BNum q W kb b8 D) (g : Only (fun b => b = D + 1 ∨ b = D + 4) w w') : BI q X W s a c kb b8 D done w' := by
  have h1 := hn.i1
  have h2 := hn.i2
  have h3 := hn.i3
  have h4 := hn.i4
  refine ⟨h.on.trans (g.mono' (fun i e => .inr (by omega))), h.loc.only g (fun p hp => by have := bestL_blocks p hp; omega), ?_, ?_⟩
  · refine h.memo.mono (g.block _ h.memo.lt (by omega)) (fun s v hv => ⟨hv.1, hv.2.onlyX g (fun b e => .inr (by omega))⟩)
  · obtain ⟨a', k', c', hl, hi, had⟩ := h.best
    refine ⟨a', k', c', hl.only g (fun p hp => by have := restL_blocks p hp; omega), hi.onlyAt g (fun ad e => by have := (had ad e).1; omega), fun ad e => ?_⟩
    have := (had ad e).1
    exact ⟨this, (had ad e).2.only g (by omega)⟩
theorem BI.gr {q : PP} {X : Nat → Prop} {W w w' : World} {s : List Int} {a : Option Addr} {c kb b8 D : Nat} {done : List (List Int)} (h : BI q X W s a c kb b8 D done w) (hn : BNum q W kb b8 D) (g : Gr w w') : BI q X W s a c kb b8 D done w' := h.keep hn (g.only _)

/-- a call of best in a round -/
theorem BI.call {q : PP} {X : Nat → Prop} {W w w' : World} {s : List Int} {a : Option Addr} {c kb b8 D : Nat} {done : List (List Int)} (h : BI q X W s a c kb b8 D done w) (hI : PInv q X W) (g : Only (fun b => b = q.m) w w') (hI' : PInv q (XL X W.heap.size (D + 4)) w') : BI q X W s a c kb b8 D done w' := by
  have hn := (h.inv hI).noc
  refine ⟨h.on.trans (g.mono' (fun i e => .inl e)), h.loc.onlyN g hn, hI'.memo, ?_⟩
  obtain ⟨a', k', c', hl, hi, had⟩ := h.best
  exact ⟨a', k', c', hl.onlyN g hn, hi.only g hn, fun ad e => ⟨(had ad e).1, (had ad e).2.onlyN g hn⟩⟩

/-- best has turned -/
theorem BI.set {q : PP} {X : Nat → Prop} {W w w' : World} {s x : List Int} {a : Option Addr} {c kb b8 D : Nat} {done : List (List Int)} (h : BI q X W s a c kb b8 D done w) (hn : BNum q W kb b8 D) (g : Only (fun b => b = b8) w w')
    {a' : Option Addr} {k' c' : Nat} (hl : LCells w' (restL b8 (foldV q s (done ++ [x])) a' k' c')) (hi : Ints w' a' k' (foldV q s (done ++ [x])).nxt) (had : ∀ ad, a' = some ad → D + 4 < ad.block ∧ Is3 w' ad.block) : BI q X W s a c kb b8 D (done ++ [x]) w' := by
  have h1 := hn.i1
  have h2 := hn.i2
  have h3 := hn.i3
  have h4 := hn.i4
  exact ⟨h.on.trans (g.mono' (fun i e => .inr (by omega))), h.loc.only g (fun p hp => by have := bestL_blocks p hp; omega), h.memo.mono (g.block _ h.memo.lt (by omega)) (fun s v hv => ⟨hv.1, hv.2.onlyX g (fun b e => .inr (by omega))⟩), a', k', c', hl, hi, had⟩
theorem BI.same {q : PP} {X : Nat → Prop} {W w : World} {s x : List Int} {a : Option Addr} {c kb b8 D : Nat} {done : List (List Int)} (h : BI q X W s a c kb b8 D done w) (he : foldV q s (done ++ [x]) = foldV q s done) : BI q X W s a c kb b8 D (done ++ [x]) w := by
  refine ⟨h.on, h.loc, h.memo, ?_⟩
  rw [he]
  exact h.best
theorem BI.start {q : PP} {X : Nat → Prop} {W w : World} {s : List Int} {a : Option Addr} {c kb b8 D : Nat} (hI : PInv q X W) (hK : BKey q X W w a c kb s) (hl : LCells w (restL b8 Rs.no none 0 0)) : BI q X W s a c kb b8 D [] w := by
  refine ⟨hK.loc.gr.only _, hK.cells, ?_, none, 0, 0, hl, Ints.nil _, fun ad e => by cases e⟩
  have h1 := (hI.wide (X' := XL X W.heap.size (D + 4)) (fun b hb hx => by
    rcases hx with hx | hx
    · exact hx
    · omega)).gr hK.loc.gr
  exact h1.memo
/-- what the iterator reads -/
theorem PInv.base {q : PP} {X : Nat → Prop} {W : World} {a : Option Addr} {s : List Int} (H : PHyp q) (h : PInv q X W) (hs : Ints W a q.n s) (hst : StOk q.f s) : SBase W (fun b => b = q.m ∨ W.heap.size ≤ b) q.f q.ta q.tn q.ca q.cn a q.toa q.n s q.to :=
  ⟨H.ok, h.fl, hs, h.ito, h.nocS, fun b hb => .inr hb, by have := H.ok.n1; have := H.nt; omega, H.nt, fun c hc => (hst.ver c (by rw [← H.nt]; exact hc)).1, fun c hc => (H.sto.ver c (by rw [← H.nt]; exact hc)).2⟩
end
end Go.Proofs.Ytlilojpnhmfnaaa
