/- Several texts of this claim in one file. (1) The closure of states: its leaf. (2) The closure of states: appending in place. (3) Values of the operations of a region that are known ahead. Nothing of the program is proved here. (4) The closure of states: one step. (5) The closure of states: one step. (6) The closures of states: all of them. (7) The closures of states: the iterator. (8) Contract: states makes its iterator. (9) A rule for a range over states. (10) Cells of a call's own, as a list; a region with one operation that writes. Nothing of the program is proved here. (11) Cells that are known, as a list, in a world that grows. Nothing of the program is proved here. (12) A walk by lemmas: one lemma for each kind of operation. Nothing of the program is proved here. (13) A walk by lemmas: entering a function, what lies between regions, loops, the return. Nothing of the program is proved here. (14) Closed facts about the types. (15) A map keyed by states: what a lookup and a store do. -/
import Derived.Test.YtlilojpnhmfnaaaBd2
import Derived.Test.YtlilojpnhmfnaaaBd1
import Derived.Laws.EntriesVeiled
import Derived.RangeFuncBound
import Derived.Shelf.Abstract
import Derived.WalkSpells
import Derived.Deep.LoopGhost
import Derived.Test.YtlilojpnhmfnaaaProg
import Derived.WideKeyArr
import Derived.MapKept
namespace Go.Proofs.Ytlilojpnhmfnaaa
section
open Go.RowKit

/-- all states that work, from lo to hi, that go on from pre by k more computers -/
def enum (f : Fl) (lo hi : List Int) : Nat → List Int → List (List Int)
  | 0, pre => if worksB f pre then [pre] else []
  | k + 1, pre => (List.range (hi[pre.length]?.getD 0 - lo[pre.length]?.getD 0 + 1).toNat).flatMap fun (i : Nat) => enum f lo hi k (pre ++ [lo[pre.length]?.getD 0 + (i : Int)])

/-- where the closure's variables lie -/
structure NP where
  bfr : Nat
  bfl : Nat
  by_ : Nat
  bto : Nat
  bn : Nat
  p : Nat
  l : Nat
  fa : Option Addr
  fc : Nat
  ta : Option Addr
  tn : Nat
  tc : Nat
  ca : Option Addr
  cn : Nat
  cc : Nat
  toa : Option Addr
  toc : Nat
  n : Nat
  f : Fl
  lo : List Int
  hi : List Int
  wB : World
  S : Nat → Prop

def NP.caps (q : NP) : List Value := [.pointer (some ⟨q.bfr, 0, none⟩), .pointer (some ⟨q.bfl, 0, none⟩), .pointer (some ⟨q.by_, 0, none⟩), .pointer (some ⟨q.bto, 0, none⟩), .pointer (some ⟨q.bn, 0, none⟩)]

structure NEnv (q : NP) (W : World) : Prop where
  cfr : W.cell? ⟨q.bfr, 0, none⟩ = some (.slice q.fa q.n q.fc)
  cfl0 : W.cell? ⟨q.bfl, 0, none⟩ = some (.slice q.ta q.tn q.tc)
  cfl1 : W.cell? ⟨q.bfl, 1, none⟩ = some (.slice q.ca q.cn q.cc)
  cy : W.cell? ⟨q.by_, 0, none⟩ = some (.func (.yield q.l) #[] #[])
  cto : W.cell? ⟨q.bto, 0, none⟩ = some (.slice q.toa q.n q.toc)
  cn_ : W.cell? ⟨q.bn, 0, none⟩ = some (.func (.func 91) #[] #[.pointer (some ⟨q.bfr, 0, none⟩), .pointer (some ⟨q.bfl, 0, none⟩), .pointer (some ⟨q.by_, 0, none⟩), .pointer (some ⟨q.bto, 0, none⟩), .pointer (some ⟨q.bn, 0, none⟩)])
  fl : FlAt W q.ta q.tn q.ca q.cn q.f
  ilo : Ints W q.fa q.n q.lo
  ihi : Ints W q.toa q.n q.hi
  pl : q.p < W.heap.size
  base : Only q.S q.wB W

/-- the buffer begins with pre -/
def Buf (q : NP) (W : World) (pre : List Int) : Prop := ∃ rest : List Value, W.heap[q.p]? = some (.cells (pre.map (Value.int .i64) ++ rest).toArray 3 (0, 0)) ∧ pre.length + rest.length = q.n

theorem Buf.ints {q : NP} {W : World} {pre : List Int} (h : Buf q W pre) (hn : q.n ≤ 6) : Ints W (some ⟨q.p, 0, none⟩) pre.length pre := by
  obtain ⟨rest, hb, hl⟩ := h
  refine ⟨rfl, by omega, fun j hj => ⟨_, rfl, (Array.getElem?_eq_some_iff.1 hb).1, ?_⟩⟩
  have e : ((⟨q.p, 0, none⟩ : Addr).add j) = ⟨q.p, j, none⟩ := by
    unfold Addr.add; split
    · subst_vars; rfl
    · simp
  rw [e]
  simp [World.cell?, hb, List.getElem?_append_left, hj]

/-- what holds after the closure has run to its end, or has been stopped -/
def NPost (q : NP) (J : List (List Int) → World → Prop) (Jx : World → Prop) (pre : List Int) (done : List (List Int)) (e : Ending) (W' : World) : Prop :=
  (e = .returned (.bool true) ∧ J done W' ∧ NEnv q W' ∧ Buf q W' pre) ∨ (e = .returned (.bool false) ∧ Jx W')

/-- what the closure is called under -/
structure NHyp (q : NP) (Y : Nat → Prop) (J : List (List Int) → World → Prop) (Jx : World → Prop) (all : List (List Int)) : Prop where
  ok : FlOk q.f
  n1 : 1 ≤ q.n
  nt : q.n = q.f.times.length
  lo0 : ∀ c, c < q.n → 0 ≤ q.lo[c]?.getD 0
  hi1 : ∀ c, c < q.n → q.hi[c]?.getD 0 ≤ ((q.f.times[c]?.getD []).length : Int)
  env : ∀ W W', NEnv q W → Only (fun b => Y b ∨ b = q.p) W W' → NEnv q W'
  yp : ¬ Y q.p
  hJ : ∀ done W W', J done W → Only (fun b => b = q.p) W W' → J done W'
  hJx : ∀ W W', Jx W → Gr W W' → Jx W'
  hY : ∀ done x rest W a c, J done W → NEnv q W → Ints W (some a) q.n x → Is3 W a.block → q.p < a.block → all = done ++ x :: rest → StOk q.f x → worksB q.f x = true →
    YieldAt Fence.wide 0 Try.prog q.l #[.slice (some a) q.n c] W fun e W' => (e = .returned (.bool true) ∧ J (done ++ [x]) W' ∧ Only Y W W') ∨ (e = .returned (.bool false) ∧ Jx W')

def LeafClone (q : NP) (W : World) (pre : List Int) (W' : World) (v : Value) : Prop := ∃ g c, v = .slice (some ⟨g, 0, none⟩) q.n c ∧ W.heap.size ≤ g ∧ Ints W' (some ⟨g, 0, none⟩) q.n pre ∧ Is3 W' g
def LeafOut (q : NP) (J : List (List Int) → World → Prop) (Jx : World → Prop) (pre : List Int) (done : List (List Int)) (W' : World) (v : Value) : Prop :=
  (v = .bool true ∧ J done W' ∧ NEnv q W' ∧ Buf q W' pre) ∨ (v = .bool false ∧ Jx W')

theorem lt_cell {W : World} {p : Addr} {v : Value} (h : W.cell? p = some v) : p.block < W.heap.size := by
  obtain ⟨_, _, _, hb⟩ := cell_block h
  exact (Array.getElem?_eq_some_iff.1 hb).1

set_option maxHeartbeats 400000 in
theorem next_leaf (q : NP) (Y : Nat → Prop) (J : List (List Int) → World → Prop) (Jx : World → Prop) (all : List (List Int)) (H : NHyp q Y J Jx all) (pre : List Int) (done rest : List (List Int)) (W : World)
    (hl : pre.length = q.n) (hst : StOk q.f pre) (hE : NEnv q W) (hB : Buf q W pre) (hJ : J done W) (hall : all = done ++ (enum q.f q.lo q.hi 0 pre ++ rest)) :
    Calls Try.prog 91 #[.slice (some ⟨q.p, 0, none⟩) q.n q.n, .pointer (some ⟨q.bfr, 0, none⟩), .pointer (some ⟨q.bfl, 0, none⟩), .pointer (some ⟨q.by_, 0, none⟩), .pointer (some ⟨q.bto, 0, none⟩), .pointer (some ⟨q.bn, 0, none⟩)] W
      (NPost q J Jx pre (done ++ enum q.f q.lo q.hi 0 pre)) := by
  have hn6 : q.n ≤ 6 := by have := H.ok.n6; have := H.nt; omega
  have hcfr := hE.cfr
  have hints : Ints W (some ⟨q.p, 0, none⟩) q.n pre := by have := hB.ints hn6; rw [hl] at this; exact this
  cases hb : worksB q.f pre with
  | false =>
    have henum : Hid (enum q.f q.lo q.hi 0 pre = []) := Lib.hid (by simp [enum, hb])
    go_enter Try.func91, Try.ntmps91
    go_wp2_with fail
    refine (wpIn_wide (n := 0)).1 ?_
    refine region_inv (F := Fence.wide) (by kernel_rfl) (by rfl) (by decide) (fun _ => trivial)
      (fun done u W' => Gr W W' ∧ Vl done u 0 (· = .agg #[.slice q.ta q.tn q.tc, .slice q.ca q.cn q.cc]) ∧ Vl done u 1 (· = .slice (some ⟨q.p, 0, none⟩) q.n q.n) ∧ Vl done u 2 (· = .bool false) ∧ Vl done u 3 (· = .bool true) ∧ Vl done u 4 (· = .bool true) ∧ Vl done u 9 (· = .bool true) ∧ Vl done u 10 (· = .bool true))
      (fun u => ⟨Gr.drew W, Vl.start, Vl.start, Vl.start, Vl.start, Vl.start, Vl.start, Vl.start⟩) ⟨?_, ?_, ?_, ?_, ?_, ?_, ?_, ?_, ?_, ?_, ?_, trivial⟩ ?_
    · rintro u done W' hd hanc - ⟨hg, r0, r1, r2, r3, r4, r9, r10⟩
      have c0 := (hg.cell (p := ⟨q.bfl, 0, none⟩) (lt_cell hE.cfl0)).trans hE.cfl0
      have c1 := (hg.cell (p := ⟨q.bfl, 1, none⟩) (lt_cell hE.cfl1)).trans hE.cfl1
      refine op_plain (ro := none) rfl (fun c h => by cases h) fun K hK => ?_
      simp only [fillL, List.setIfInBounds_toArray, List.set_cons_zero, List.set_cons_succ, Nat.zero_add, Nat.reduceAdd] at hK ⊢
      go_simp
      exact hK _ _ ⟨hg, Vl.new rfl, r1.keep (by decide), r2.keep (by decide), r3.keep (by decide), r4.keep (by decide), r9.keep (by decide), r10.keep (by decide)⟩
    · rintro u done W' hd hanc - ⟨hg, r0, r1, r2, r3, r4, r9, r10⟩
      refine op_plain (ro := none) rfl (fun c h => by cases h) fun K hK => ?_
      simp only [fillL, List.setIfInBounds_toArray, List.set_cons_zero, List.set_cons_succ, Nat.zero_add, Nat.reduceAdd] at hK ⊢
      go_simp
      exact hK _ _ ⟨hg, r0.keep (by decide), Vl.new rfl, r2.keep (by decide), r3.keep (by decide), r4.keep (by decide), r9.keep (by decide), r10.keep (by decide)⟩
    · rintro u done W' hd hanc - ⟨hg, r0, r1, r2, r3, r4, r9, r10⟩
      have e0 : u 0 = _ := r0 (hanc 0 (mem_of (by kernel_rfl)))
      have e1 : u 1 = _ := r1 (hanc 1 (mem_of (by kernel_rfl)))
      refine op_plain (ro := none) rfl (fun c h => by cases h) fun K hK => ?_
      simp only [fillL, List.setIfInBounds_toArray, List.set_cons_zero, List.set_cons_succ, Nat.zero_add, Nat.reduceAdd, e0, e1] at hK ⊢
      have hcon := works_any q.ta q.ca (some ⟨q.p, 0, none⟩) q.tn q.tc q.cn q.cc q.n q.n q.f pre W' (hE.fl.gr hg) H.ok ((hints).gr hg) hst
      rw [hb] at hcon
      have HCON := Lib.hid hcon
      clear hcon
      go_simp
      refine HCON.out.mono ?_
      rintro e w2 ⟨rfl, hg2⟩
      exact hK _ _ ⟨hg.trans hg2, r0.keep (by decide), r1.keep (by decide), Vl.new rfl, r3.keep (by decide), r4.keep (by decide), r9.keep (by decide), r10.keep (by decide)⟩
    · rintro u done W' hd hanc - ⟨hg, r0, r1, r2, r3, r4, r9, r10⟩
      have e2 : u 2 = _ := r2 (hanc 2 (mem_of (by kernel_rfl)))
      refine op_plain (ro := none) rfl (fun c h => by cases h) fun K hK => ?_
      simp only [fillL, List.setIfInBounds_toArray, List.set_cons_zero, List.set_cons_succ, Nat.zero_add, Nat.reduceAdd, e2] at hK ⊢
      go_simp
      exact hK _ _ ⟨hg, r0.keep (by decide), r1.keep (by decide), r2.keep (by decide), Vl.new rfl, r4.keep (by decide), r9.keep (by decide), r10.keep (by decide)⟩
    · rintro u done W' hd hanc - ⟨hg, r0, r1, r2, r3, r4, r9, r10⟩
      have e3 : u 3 = _ := r3 (hanc 3 (mem_of (by kernel_rfl)))
      refine op_plain (ro := none) rfl (fun c h => by cases h) fun K hK => ?_
      simp only [fillL, List.setIfInBounds_toArray, List.set_cons_zero, List.set_cons_succ, Nat.zero_add, Nat.reduceAdd, e3] at hK ⊢
      go_simp
      exact hK _ _ ⟨hg, r0.keep (by decide), r1.keep (by decide), r2.keep (by decide), r3.keep (by decide), Vl.new rfl, r9.keep (by decide), r10.keep (by decide)⟩
    · intro u done W' hd hanc _ hR
      have e4 : u 4 = _ := hR.2.2.2.2.2.1 (hanc 4 (mem_of (by kernel_rfl)))
      with_reducible refine op_skip 4 false e4 rfl ?_ ?_ rfl ?_
      · decide
      · rfl
      · obtain ⟨hg, r0, r1, r2, r3, r4, r9, r10⟩ := hR
        exact ⟨hg, r0.keep (by decide), r1.keep (by decide), r2.keep (by decide), r3.keep (by decide), r4.keep (by decide), r9.keep (by decide), r10.keep (by decide)⟩
    · intro u done W' hd hanc _ hR
      have e4 : u 4 = _ := hR.2.2.2.2.2.1 (hanc 4 (mem_of (by kernel_rfl)))
      with_reducible refine op_skip 4 false e4 rfl ?_ ?_ rfl ?_
      · decide
      · rfl
      · obtain ⟨hg, r0, r1, r2, r3, r4, r9, r10⟩ := hR
        exact ⟨hg, r0.keep (by decide), r1.keep (by decide), r2.keep (by decide), r3.keep (by decide), r4.keep (by decide), r9.keep (by decide), r10.keep (by decide)⟩
    · intro u done W' hd hanc _ hR
      have e4 : u 4 = _ := hR.2.2.2.2.2.1 (hanc 4 (mem_of (by kernel_rfl)))
      with_reducible refine op_skip 4 false e4 rfl ?_ ?_ rfl ?_
      · decide
      · rfl
      · obtain ⟨hg, r0, r1, r2, r3, r4, r9, r10⟩ := hR
        exact ⟨hg, r0.keep (by decide), r1.keep (by decide), r2.keep (by decide), r3.keep (by decide), r4.keep (by decide), r9.keep (by decide), r10.keep (by decide)⟩
    · intro u done W' hd hanc _ hR
      have e4 : u 4 = _ := hR.2.2.2.2.2.1 (hanc 4 (mem_of (by kernel_rfl)))
      with_reducible refine op_skip 4 false e4 rfl ?_ ?_ rfl ?_
      · decide
      · rfl
      · obtain ⟨hg, r0, r1, r2, r3, r4, r9, r10⟩ := hR
        exact ⟨hg, r0.keep (by decide), r1.keep (by decide), r2.keep (by decide), r3.keep (by decide), r4.keep (by decide), r9.keep (by decide), r10.keep (by decide)⟩
    · rintro u done W' hd hanc - ⟨hg, r0, r1, r2, r3, r4, r9, r10⟩
      have e4 : u 4 = _ := r4 (hanc 4 (mem_of (by kernel_rfl)))
      refine op_plain (ro := none) rfl (fun c h => by cases h) fun K hK => ?_
      simp only [fillL, List.setIfInBounds_toArray, List.set_cons_zero, List.set_cons_succ, Nat.zero_add, Nat.reduceAdd, e4] at hK ⊢
      go_simp
      exact hK _ _ ⟨hg, r0.keep (by decide), r1.keep (by decide), r2.keep (by decide), r3.keep (by decide), r4.keep (by decide), Vl.new rfl, r10.keep (by decide)⟩
    · rintro u done W' hd hanc - ⟨hg, r0, r1, r2, r3, r4, r9, r10⟩
      have e9 : u 9 = _ := r9 (hanc 9 (mem_of (by kernel_rfl)))
      refine op_plain (ro := none) rfl (fun c h => by cases h) fun K hK => ?_
      simp only [fillL, List.setIfInBounds_toArray, List.set_cons_zero, List.set_cons_succ, Nat.zero_add, Nat.reduceAdd, e9] at hK ⊢
      go_simp
      exact hK _ _ ⟨hg, r0.keep (by decide), r1.keep (by decide), r2.keep (by decide), r3.keep (by decide), r4.keep (by decide), r9.keep (by decide), Vl.new rfl⟩
    · rintro u W' ⟨done, hdn, hg, r0, r1, r2, r3, r4, r9, r10⟩
      have e10 : u 10 = _ := r10 (hdn 10 (by decide))
      simp only [fillL, List.setIfInBounds_toArray, List.set_cons_zero, List.set_cons_succ]
      go_wp2
      go_ret
      refine .inl ⟨by simp [e10], ?_⟩
      rw [henum.out, List.append_nil]
      obtain ⟨rst, hbk, hrl⟩ := hB
      exact ⟨H.hJ _ _ _ hJ (hg.only _), H.env _ _ hE (hg.only _), rst, (hg.below.block _ hE.pl).trans hbk, hrl⟩
  | true =>
    have henum : Hid (enum q.f q.lo q.hi 0 pre = [pre]) := Lib.hid (by simp [enum, hb])
    go_enter Try.func91, Try.ntmps91
    go_wp2_with fail
    refine (wpIn_wide (n := 0)).1 ?_
    refine region_inv (F := Fence.wide) (by kernel_rfl) (by rfl) (by decide) (fun _ => trivial)
      (fun done' u W' => Vl done' u 0 (· = .agg #[.slice q.ta q.tn q.tc, .slice q.ca q.cn q.cc]) ∧ Vl done' u 1 (· = .slice (some ⟨q.p, 0, none⟩) q.n q.n) ∧ Vl done' u 2 (· = .bool true) ∧ Vl done' u 3 (· = .bool false) ∧ Vl done' u 4 (· = .bool false) ∧ Vl done' u 5 (· = .func (.yield q.l) #[] #[]) ∧ Vl done' u 6 (· = .slice (some ⟨q.p, 0, none⟩) q.n q.n) ∧
        (done' 8 = false → Gr W W' ∧ Vl done' u 7 (LeafClone q W pre W')) ∧ Vl done' u 8 (LeafOut q J Jx pre (done ++ [pre]) W') ∧ Vl done' u 9 (LeafOut q J Jx pre (done ++ [pre]) W') ∧ Vl done' u 10 (LeafOut q J Jx pre (done ++ [pre]) W'))
      (fun u => ⟨Vl.start, Vl.start, Vl.start, Vl.start, Vl.start, Vl.start, Vl.start, fun _ => ⟨Gr.drew W, Vl.start⟩, Vl.start, Vl.start, Vl.start⟩) ⟨?_, ?_, ?_, ?_, ?_, ?_, ?_, ?_, ?_, ?_, ?_, trivial⟩ ?_
    · rintro u done' W' hd hanc hclo ⟨r0, r1, r2, r3, r4, r5, r6, r7, r8, r9, r10⟩
      have h8 : done' 8 = false := by
        cases h : done' 8 with
        | false => rfl
        | true => rw [hclo 8 _ rfl h 0 (mem_of (by kernel_rfl))] at hd; cases hd
      obtain ⟨hg, r7'⟩ := r7 h8
      have c0 := (hg.cell (p := ⟨q.bfl, 0, none⟩) (lt_cell hE.cfl0)).trans hE.cfl0
      have c1 := (hg.cell (p := ⟨q.bfl, 1, none⟩) (lt_cell hE.cfl1)).trans hE.cfl1
      refine op_plain (ro := none) rfl (fun c h => by cases h) fun K hK => ?_
      simp only [fillL, List.setIfInBounds_toArray, List.set_cons_zero, List.set_cons_succ, Nat.zero_add, Nat.reduceAdd] at hK ⊢
      go_simp
      exact hK _ _ ⟨Vl.new rfl, r1.keep (by decide), r2.keep (by decide), r3.keep (by decide), r4.keep (by decide), r5.keep (by decide), r6.keep (by decide), fun _ => ⟨hg, r7'.keep (by decide)⟩, r8.keep (by decide), r9.keep (by decide), r10.keep (by decide)⟩
    · rintro u done' W' hd hanc hclo ⟨r0, r1, r2, r3, r4, r5, r6, r7, r8, r9, r10⟩
      have h8 : done' 8 = false := by
        cases h : done' 8 with
        | false => rfl
        | true => rw [hclo 8 _ rfl h 1 (mem_of (by kernel_rfl))] at hd; cases hd
      obtain ⟨hg, r7'⟩ := r7 h8
      refine op_plain (ro := none) rfl (fun c h => by cases h) fun K hK => ?_
      simp only [fillL, List.setIfInBounds_toArray, List.set_cons_zero, List.set_cons_succ, Nat.zero_add, Nat.reduceAdd] at hK ⊢
      go_simp
      exact hK _ _ ⟨r0.keep (by decide), Vl.new rfl, r2.keep (by decide), r3.keep (by decide), r4.keep (by decide), r5.keep (by decide), r6.keep (by decide), fun _ => ⟨hg, r7'.keep (by decide)⟩, r8.keep (by decide), r9.keep (by decide), r10.keep (by decide)⟩
    · rintro u done' W' hd hanc hclo ⟨r0, r1, r2, r3, r4, r5, r6, r7, r8, r9, r10⟩
      have h8 : done' 8 = false := by
        cases h : done' 8 with
        | false => rfl
        | true => rw [hclo 8 _ rfl h 2 (mem_of (by kernel_rfl))] at hd; cases hd
      obtain ⟨hg, r7'⟩ := r7 h8
      have e0 : u 0 = _ := r0 (hanc 0 (mem_of (by kernel_rfl)))
      have e1 : u 1 = _ := r1 (hanc 1 (mem_of (by kernel_rfl)))
      refine op_plain (ro := none) rfl (fun c h => by cases h) fun K hK => ?_
      simp only [fillL, List.setIfInBounds_toArray, List.set_cons_zero, List.set_cons_succ, Nat.zero_add, Nat.reduceAdd, e0, e1] at hK ⊢
      have hcon := works_any q.ta q.ca (some ⟨q.p, 0, none⟩) q.tn q.tc q.cn q.cc q.n q.n q.f pre W' (hE.fl.gr hg) H.ok ((hints).gr hg) hst
      rw [hb] at hcon
      have HCON := Lib.hid hcon
      clear hcon
      go_simp
      refine HCON.out.mono ?_
      rintro e w2 ⟨rfl, hg2⟩
      have h7 : done' 7 = false := by
        cases h : done' 7 with
        | false => rfl
        | true => rw [hclo 7 _ rfl h 2 (mem_of (by kernel_rfl))] at hd; cases hd
      have h8s : Vl done' u 8 (LeafOut q J Jx pre (done ++ [pre]) w2) := fun h => by rw [h8] at h; cases h
      have h9s : Vl done' u 9 (LeafOut q J Jx pre (done ++ [pre]) w2) := fun h => by have := hclo 9 _ rfl h 8 (mem_of (by kernel_rfl)); rw [h8] at this; cases this
      have h10s : Vl done' u 10 (LeafOut q J Jx pre (done ++ [pre]) w2) := fun h => by have := hclo 10 _ rfl h 8 (mem_of (by kernel_rfl)); rw [h8] at this; cases this
      exact hK _ _ ⟨r0.keep (by decide), r1.keep (by decide), Vl.new rfl, r3.keep (by decide), r4.keep (by decide), r5.keep (by decide), r6.keep (by decide), fun _ => ⟨hg.trans hg2, Vl.keep (fun h => by rw [h7] at h; cases h) (by decide)⟩, h8s.keep (by decide), h9s.keep (by decide), h10s.keep (by decide)⟩
    · rintro u done' W' hd hanc hclo ⟨r0, r1, r2, r3, r4, r5, r6, r7, r8, r9, r10⟩
      have h8 : done' 8 = false := by
        cases h : done' 8 with
        | false => rfl
        | true => rw [hclo 8 _ rfl h 3 (mem_of (by kernel_rfl))] at hd; cases hd
      obtain ⟨hg, r7'⟩ := r7 h8
      have e2 : u 2 = _ := r2 (hanc 2 (mem_of (by kernel_rfl)))
      refine op_plain (ro := none) rfl (fun c h => by cases h) fun K hK => ?_
      simp only [fillL, List.setIfInBounds_toArray, List.set_cons_zero, List.set_cons_succ, Nat.zero_add, Nat.reduceAdd, e2] at hK ⊢
      go_simp
      exact hK _ _ ⟨r0.keep (by decide), r1.keep (by decide), r2.keep (by decide), Vl.new rfl, r4.keep (by decide), r5.keep (by decide), r6.keep (by decide), fun _ => ⟨hg, r7'.keep (by decide)⟩, r8.keep (by decide), r9.keep (by decide), r10.keep (by decide)⟩
    · rintro u done' W' hd hanc hclo ⟨r0, r1, r2, r3, r4, r5, r6, r7, r8, r9, r10⟩
      have h8 : done' 8 = false := by
        cases h : done' 8 with
        | false => rfl
        | true => rw [hclo 8 _ rfl h 4 (mem_of (by kernel_rfl))] at hd; cases hd
      obtain ⟨hg, r7'⟩ := r7 h8
      have e3 : u 3 = _ := r3 (hanc 3 (mem_of (by kernel_rfl)))
      refine op_plain (ro := none) rfl (fun c h => by cases h) fun K hK => ?_
      simp only [fillL, List.setIfInBounds_toArray, List.set_cons_zero, List.set_cons_succ, Nat.zero_add, Nat.reduceAdd, e3] at hK ⊢
      go_simp
      exact hK _ _ ⟨r0.keep (by decide), r1.keep (by decide), r2.keep (by decide), r3.keep (by decide), Vl.new rfl, r5.keep (by decide), r6.keep (by decide), fun _ => ⟨hg, r7'.keep (by decide)⟩, r8.keep (by decide), r9.keep (by decide), r10.keep (by decide)⟩
    · intro u done' W' hd hanc hclo hR
      have e4 : u 4 = _ := hR.2.2.2.2.1 (hanc 4 (mem_of (by kernel_rfl)))
      with_reducible refine op_meetIn 4 false e4 ?_ ?_ ?_ ?_
      · decide
      · rfl
      · rfl
      refine op_in (ro := none) ?_ ?_
      · intro c h; cases h
      intro K hK
      have r0 := hR.1
      have r1 := hR.2.1
      have r2 := hR.2.2.1
      have r3 := hR.2.2.2.1
      have r4 := hR.2.2.2.2.1
      have r5 := hR.2.2.2.2.2.1
      have r6 := hR.2.2.2.2.2.2.1
      have r7 := hR.2.2.2.2.2.2.2.1
      have r8 := hR.2.2.2.2.2.2.2.2.1
      have r9 := hR.2.2.2.2.2.2.2.2.2.1
      have r10 := hR.2.2.2.2.2.2.2.2.2.2
      have h8 : done' 8 = false := by
        cases h : done' 8 with
        | false => rfl
        | true => rw [hclo 8 _ rfl h 5 (mem_of (by kernel_rfl))] at hd; cases hd
      have hg := (r7 h8).1
      have r7' := (r7 h8).2
      have cy := (hg.cell (p := ⟨q.by_, 0, none⟩) (lt_cell hE.cy)).trans hE.cy
      simp only [fillL, List.setIfInBounds_toArray, List.set_cons_zero, List.set_cons_succ, Nat.zero_add, Nat.reduceAdd, e4] at hK ⊢
      go_simp
      exact hK _ _ ⟨r0.keep (by decide), r1.keep (by decide), r2.keep (by decide), r3.keep (by decide), r4.keep (by decide), Vl.new rfl, r6.keep (by decide), fun _ => ⟨hg, r7'.keep (by decide)⟩, r8.keep (by decide), r9.keep (by decide), r10.keep (by decide)⟩
    · intro u done' W' hd hanc hclo hR
      have e4 : u 4 = _ := hR.2.2.2.2.1 (hanc 4 (mem_of (by kernel_rfl)))
      with_reducible refine op_meetIn 4 false e4 ?_ ?_ ?_ ?_
      · decide
      · rfl
      · rfl
      refine op_in (ro := none) ?_ ?_
      · intro c h; cases h
      intro K hK
      have r0 := hR.1
      have r1 := hR.2.1
      have r2 := hR.2.2.1
      have r3 := hR.2.2.2.1
      have r4 := hR.2.2.2.2.1
      have r5 := hR.2.2.2.2.2.1
      have r6 := hR.2.2.2.2.2.2.1
      have r7 := hR.2.2.2.2.2.2.2.1
      have r8 := hR.2.2.2.2.2.2.2.2.1
      have r9 := hR.2.2.2.2.2.2.2.2.2.1
      have r10 := hR.2.2.2.2.2.2.2.2.2.2
      have h8 : done' 8 = false := by
        cases h : done' 8 with
        | false => rfl
        | true => rw [hclo 8 _ rfl h 6 (mem_of (by kernel_rfl))] at hd; cases hd
      have hg := (r7 h8).1
      have r7' := (r7 h8).2
      simp only [fillL, List.setIfInBounds_toArray, List.set_cons_zero, List.set_cons_succ, Nat.zero_add, Nat.reduceAdd, e4] at hK ⊢
      go_simp
      exact hK _ _ ⟨r0.keep (by decide), r1.keep (by decide), r2.keep (by decide), r3.keep (by decide), r4.keep (by decide), r5.keep (by decide), Vl.new rfl, fun _ => ⟨hg, r7'.keep (by decide)⟩, r8.keep (by decide), r9.keep (by decide), r10.keep (by decide)⟩
    · intro u done' W' hd hanc hclo hR
      have e4 : u 4 = _ := hR.2.2.2.2.1 (hanc 4 (mem_of (by kernel_rfl)))
      with_reducible refine op_meetIn 4 false e4 ?_ ?_ ?_ ?_
      · decide
      · rfl
      · rfl
      refine op_in (ro := none) ?_ ?_
      · intro c h; cases h
      intro K hK
      have r0 := hR.1
      have r1 := hR.2.1
      have r2 := hR.2.2.1
      have r3 := hR.2.2.2.1
      have r4 := hR.2.2.2.2.1
      have r5 := hR.2.2.2.2.2.1
      have r6 := hR.2.2.2.2.2.2.1
      have r7 := hR.2.2.2.2.2.2.2.1
      have r8 := hR.2.2.2.2.2.2.2.2.1
      have r9 := hR.2.2.2.2.2.2.2.2.2.1
      have r10 := hR.2.2.2.2.2.2.2.2.2.2
      have h8 : done' 8 = false := by
        cases h : done' 8 with
        | false => rfl
        | true => rw [hclo 8 _ rfl h 7 (mem_of (by kernel_rfl))] at hd; cases hd
      have hg := (r7 h8).1
      have r7' := (r7 h8).2
      have e6 : u 6 = _ := r6 (hanc 6 (mem_of (by kernel_rfl)))
      simp only [fillL, List.setIfInBounds_toArray, List.set_cons_zero, List.set_cons_succ, Nat.zero_add, Nat.reduceAdd, e4, e6] at hK ⊢
      have hcon := clone_any (some ⟨q.p, 0, none⟩) q.n q.n pre W' (hints.gr hg) H.n1 (by omega)
      have HCON := Lib.hid hcon
      clear hcon
      go_simp
      refine HCON.out.mono ?_
      rintro e w2 ⟨g, c, rfl, hge, hi2, hg2, his3⟩
      rw [hl] at hi2 ⊢
      have h8s : Vl done' u 8 (LeafOut q J Jx pre (done ++ [pre]) w2) := fun h => by rw [h8] at h; cases h
      have h9s : Vl done' u 9 (LeafOut q J Jx pre (done ++ [pre]) w2) := fun h => by have := hclo 9 _ rfl h 8 (mem_of (by kernel_rfl)); rw [h8] at this; cases this
      have h10s : Vl done' u 10 (LeafOut q J Jx pre (done ++ [pre]) w2) := fun h => by have := hclo 10 _ rfl h 8 (mem_of (by kernel_rfl)); rw [h8] at this; cases this
      exact hK _ _ ⟨r0.keep (by decide), r1.keep (by decide), r2.keep (by decide), r3.keep (by decide), r4.keep (by decide), r5.keep (by decide), r6.keep (by decide), fun _ => ⟨hg.trans hg2, Vl.new ⟨g, c, rfl, Nat.le_trans hg.size hge, hi2, his3⟩⟩, h8s.keep (by decide), h9s.keep (by decide), h10s.keep (by decide)⟩
    · intro u done' W' hd hanc hclo hR
      have e4 : u 4 = _ := hR.2.2.2.2.1 (hanc 4 (mem_of (by kernel_rfl)))
      with_reducible refine op_meetIn 4 false e4 ?_ ?_ rfl ?_
      · decide
      · rfl
      have r0 := hR.1
      have r1 := hR.2.1
      have r2 := hR.2.2.1
      have r3 := hR.2.2.2.1
      have r4 := hR.2.2.2.2.1
      have r5 := hR.2.2.2.2.2.1
      have r6 := hR.2.2.2.2.2.2.1
      have r7 := hR.2.2.2.2.2.2.2.1
      have r8 := hR.2.2.2.2.2.2.2.2.1
      have r9 := hR.2.2.2.2.2.2.2.2.2.1
      have r10 := hR.2.2.2.2.2.2.2.2.2.2
      have h8 : done' 8 = false := hd
      have hg := (r7 h8).1
      have r7' := (r7 h8).2
      have e5 : u 5 = _ := r5 (hanc 5 (mem_of (by kernel_rfl)))
      refine Exists.elim (r7' (hanc 7 (mem_of (by kernel_rfl)))) fun g hg1 => ?_
      refine Exists.elim hg1 fun c hg2 => ?_
      have e7 := hg2.1
      have hge := hg2.2.1
      have hi7 := hg2.2.2.1
      have ht7 := hg2.2.2.2
      have hyd := H.hY done pre rest W' ⟨g, 0, none⟩ c (H.hJ _ _ _ hJ (hg.only _)) (H.env _ _ hE (hg.only _)) hi7 ht7 (Nat.lt_of_lt_of_le hE.pl hge) (by rw [hall, henum.out]; rfl) hst hb
      have hbuf : W'.heap[q.p]? = W.heap[q.p]? := hg.below.block _ hE.pl
      refine op_yield (ro := none) rfl (v := .slice (some ⟨g, 0, none⟩) q.n c) ?_ ?_ hyd ?_ ?_
      · simp only [fillL, List.setIfInBounds_toArray, List.set_cons_zero, List.set_cons_succ, Nat.zero_add, Nat.reduceAdd, e4, e5, e7]; rfl
      · simp only [fillL, List.setIfInBounds_toArray, List.set_cons_zero, List.set_cons_succ, Nat.zero_add, Nat.reduceAdd, e4, e5, e7]; rfl
      · rintro e W2 (⟨rfl, _⟩ | ⟨rfl, _⟩) <;> exact ⟨_, rfl⟩
      · rintro v' W2 hv
        refine ⟨v', rfl, ?_⟩
        have hout : LeafOut q J Jx pre (done ++ [pre]) W2 v' := by
          rcases hv with ⟨h, hJ2, hO2⟩ | ⟨h, hx2⟩
          · injection h with h
            subst h
            obtain ⟨rst, hbk, hrl⟩ := hB
            exact .inl ⟨rfl, hJ2, H.env _ _ (H.env _ _ hE (hg.only _)) (hO2.mono (fun _ _ h => .inl h)), rst, (hO2.block _ (Nat.lt_of_lt_of_le hE.pl hg.size) H.yp).trans (hbuf.trans hbk), hrl⟩
          · injection h with h
            exact .inr ⟨h, hx2⟩
        have h9s : Vl done' u 9 (LeafOut q J Jx pre (done ++ [pre]) W2) := fun h => by have := hclo 9 _ rfl h 8 (mem_of (by kernel_rfl)); rw [h8] at this; cases this
        have h10s : Vl done' u 10 (LeafOut q J Jx pre (done ++ [pre]) W2) := fun h => by have := hclo 10 _ rfl h 8 (mem_of (by kernel_rfl)); rw [h8] at this; cases this
        exact ⟨r0.keep (by decide), r1.keep (by decide), r2.keep (by decide), r3.keep (by decide), r4.keep (by decide), r5.keep (by decide), r6.keep (by decide), (fun h => by rw [upd_self] at h; cases h), Vl.new hout, h9s.keep (by decide), h10s.keep (by decide)⟩
    · rintro u done' W' hd hanc hclo ⟨r0, r1, r2, r3, r4, r5, r6, r7, r8, r9, r10⟩
      obtain ⟨b, e8, hO⟩ : ∃ b : Bool, u 8 = .bool b ∧ LeafOut q J Jx pre (done ++ [pre]) W' (.bool b) := by
        have := r8 (hanc 8 (mem_of (by kernel_rfl)))
        rcases this with ⟨h, h'⟩ | ⟨h, h'⟩
        · exact ⟨true, h, .inl ⟨rfl, h'⟩⟩
        · exact ⟨false, h, .inr ⟨rfl, h'⟩⟩
      have e4 : u 4 = _ := r4 (hanc 4 (mem_of (by kernel_rfl)))
      refine op_plain (ro := none) rfl (fun c h => by cases h) fun K hK => ?_
      simp only [fillL, List.setIfInBounds_toArray, List.set_cons_zero, List.set_cons_succ, Nat.zero_add, Nat.reduceAdd, e4, e8] at hK ⊢
      go_simp
      exact hK _ _ ⟨r0.keep (by decide), r1.keep (by decide), r2.keep (by decide), r3.keep (by decide), r4.keep (by decide), r5.keep (by decide), r6.keep (by decide), (fun h => by rw [upd_ne (by decide), hanc 8 (mem_of (by kernel_rfl))] at h; cases h), r8.keep (by decide), Vl.new hO, r10.keep (by decide)⟩
    · rintro u done' W' hd hanc hclo ⟨r0, r1, r2, r3, r4, r5, r6, r7, r8, r9, r10⟩
      obtain ⟨b, e9, hO⟩ : ∃ b : Bool, u 9 = .bool b ∧ LeafOut q J Jx pre (done ++ [pre]) W' (.bool b) := by
        have := r9 (hanc 9 (mem_of (by kernel_rfl)))
        rcases this with ⟨h, h'⟩ | ⟨h, h'⟩
        · exact ⟨true, h, .inl ⟨rfl, h'⟩⟩
        · exact ⟨false, h, .inr ⟨rfl, h'⟩⟩
      refine op_plain (ro := none) rfl (fun c h => by cases h) fun K hK => ?_
      simp only [fillL, List.setIfInBounds_toArray, List.set_cons_zero, List.set_cons_succ, Nat.zero_add, Nat.reduceAdd, e9] at hK ⊢
      go_simp
      exact hK _ _ ⟨r0.keep (by decide), r1.keep (by decide), r2.keep (by decide), r3.keep (by decide), r4.keep (by decide), r5.keep (by decide), r6.keep (by decide), (fun h => by rw [upd_ne (by decide), hanc 8 (mem_of (by kernel_rfl))] at h; cases h), r8.keep (by decide), r9.keep (by decide), Vl.new hO⟩
    · rintro u W' ⟨done', hdn, r0, r1, r2, r3, r4, r5, r6, r7, r8, r9, r10⟩
      have h10 := r10 (hdn 10 (by decide))
      simp only [fillL, List.setIfInBounds_toArray, List.set_cons_zero, List.set_cons_succ, Nat.zero_add, Nat.reduceAdd]
      rcases h10 with ⟨h, h'⟩ | ⟨h, h'⟩
      · rw [h]
        go_wp2
        go_ret
        exact .inl ⟨rfl, by rw [henum.out]; exact h'⟩
      · rw [h]
        go_wp2
        go_ret
        exact .inr ⟨rfl, h'⟩
end
section
set_option linter.unusedVariables false
open Go.RowKit

theorem wp_append_room {P : Program} {w : World} {o : Oper} {a : Act} {K : Act → World → Prop} {Q : Exit → Act → World → Prop} (s x : Operand) (t e : TypeId) (i : TypeInfo)
    (ho : o.op = .call { callee := .builtin .append, args := #[s, x], argTypes := #[t, t] }) (ht : P.underlying t = some (.slice e)) (hi : P.info? e = some i) (g sLen sCap : Nat) (cur : Array Value)
    (hs : a.eval s = .slice (some ⟨g, 0, none⟩) sLen sCap) (hg : w.heap[g]? = some (.cells cur e (0, 0))) (ad : Addr) (m c : Nat) (news : List Value) (hx : a.eval x = .slice (some ad) m c)
    (hl : news.length = m * i.size) (hnews : ∀ j u, news[j]? = some u → w.cell? (ad.add j) = some u) (h1 : ∀ u ∈ news, u.oneCell' = true) (hroom : sLen + m ≤ sCap) (hfit : sLen * i.size + news.length ≤ cur.size)
    (h : K (a.put o.dst (.slice (some ⟨g, 0, none⟩) (sLen + m) sCap)) (w.setRow g (cur.toList.take (sLen * i.size) ++ news ++ cur.toList.drop (sLen * i.size + news.length)).toArray)) : o.wp P a w K Q := by
  have hrun := run_append_room (P := P) w t o.type e i ht hi g sLen sCap cur hg ad m c news hl hnews h1 hroom hfit
  unfold Oper.wp execOp
  simp only [ho, resolve, invoke, builtin, Sem.run_bind, Sem.run_pure, Result.andThen_ok, List.map_toArray, List.map_cons, List.map_nil, hs, hx, hrun]
  exact h

theorem setRow_only {w : World} {g : Nat} {cur arr : Array Value} {e : TypeId} (hg : w.heap[g]? = some (.cells cur e (0, 0))) : Only (fun b => b = g) w (w.setRow g arr) ∧ (w.setRow g arr).heap[g]? = some (.cells arr e (0, 0)) := by
  refine ⟨⟨rfl, rfl, rfl, by simp [World.setRow], fun b _ hne => ?_⟩, ?_⟩
  · simp [World.setRow, Array.getElem?_modify, Ne.symm hne]
  · simp [World.setRow, Array.getElem?_modify, hg]

/-- one more number in the buffer -/
theorem Buf.push {q : NP} {W : World} {pre : List Int} {v : Int} (h : Buf q W pre) (hlt : pre.length < q.n) :
    ∃ cur : Array Value, W.heap[q.p]? = some (.cells cur 3 (0, 0)) ∧ cur.size = q.n ∧ (cur.toList.take (pre.length * 1) ++ [Value.int .i64 v] ++ cur.toList.drop (pre.length * 1 + 1)).toArray = ((pre ++ [v]).map (Value.int .i64) ++ cur.toList.drop (pre.length + 1)).toArray := by
  obtain ⟨rest, hb, hl⟩ := h
  refine ⟨_, hb, by simp; omega, ?_⟩
  congr 1
  simp

theorem Buf.shorten {q : NP} {W : World} {pre : List Int} {v : Int} (h : Buf q W (pre ++ [v])) : Buf q W pre := by
  obtain ⟨rest, hb, hl⟩ := h
  refine ⟨.int .i64 v :: rest, ?_, ?_⟩
  · rw [hb]; simp
  · simp at hl ⊢; omega
end
section
open Go.RowKit

/-- where operation j has run and vs says its value, it is that -/
def Kn (vs : List (Option Value)) (done : Nat → Bool) (u : Nat → Value) : Prop := ∀ j x, vs[j]? = some (some x) → done j = true → u j = x
theorem Kn.get {vs : List (Option Value)} {done : Nat → Bool} {u : Nat → Value} (h : Kn vs done u) (j : Nat) {x : Value} (hv : vs[j]? = some (some x)) (hd : done j = true) : u j = x := h j x hv hd
theorem Kn.start (vs : List (Option Value)) (u : Nat → Value) : Kn vs (fun _ => false) u := fun _ _ _ h => by cases h
theorem Kn.new {vs : List (Option Value)} {done : Nat → Bool} {u : Nat → Value} (h : Kn vs done u) {i : Nat} {v : Value} (hv : vs[i]? = some (some v)) : Kn vs (upd done i) (fun j => if j = i then v else u j) := by
  intro j x hj hd
  by_cases e : j = i
  · subst e; rw [hv] at hj; simp at hj; simp [hj]
  · simp only [upd, if_neg e] at hd ⊢; exact h j x hj hd
theorem Kn.skip {vs : List (Option Value)} {done : Nat → Bool} {u : Nat → Value} (h : Kn vs done u) {i : Nat} {v : Value} (hv : vs[i]? = some none) : Kn vs (upd done i) (fun j => if j = i then v else u j) := by
  intro j x hj hd
  by_cases e : j = i
  · subst e; rw [hv] at hj; simp at hj
  · simp only [upd, if_neg e] at hd ⊢; exact h j x hj hd
/-- an operation that comes before one that has not run -/
theorem not_done {l : List Oper} {done : Nat → Bool} (hclo : ∀ j oj, l[j]? = some oj → done j = true → ∀ k ∈ anc l l.length (fore oj), done k = true) {i : Nat} (hd : done i = false) (j : Nat) {oj : Oper} (ho : l[j]? = some oj)
    (hc : (anc l l.length (fore oj)).contains i = true) : done j = false := by
  cases h : done j with
  | false => rfl
  | true => rw [hclo j _ ho h i (mem_of hc)] at hd; cases hd
end
section
open Go.RowKit

/-- what has come of the versions below i -/
def enumTo (f : Fl) (lo hi : List Int) (k : Nat) (pre : List Int) (i : Nat) : List (List Int) := (List.range i).flatMap fun (j : Nat) => enum f lo hi k (pre ++ [lo[pre.length]?.getD 0 + (j : Int)])

theorem enumTo_succ (f : Fl) (lo hi : List Int) (k : Nat) (pre : List Int) (i : Nat) : enumTo f lo hi k pre (i + 1) = enumTo f lo hi k pre i ++ enum f lo hi k (pre ++ [lo[pre.length]?.getD 0 + (i : Int)]) := by
  simp [enumTo, List.range_succ]
theorem enum_split (f : Fl) (lo hi : List Int) (k : Nat) (pre : List Int) (i : Nat) (h : i < (hi[pre.length]?.getD 0 - lo[pre.length]?.getD 0 + 1).toNat) :
    ∃ r, enum f lo hi (k + 1) pre = enumTo f lo hi k pre i ++ (enum f lo hi k (pre ++ [lo[pre.length]?.getD 0 + (i : Int)]) ++ r) := by
  show ∃ r, enumTo f lo hi k pre _ = _
  generalize (hi[pre.length]?.getD 0 - lo[pre.length]?.getD 0 + 1).toNat = m at h
  induction m with
  | zero => omega
  | succ m ih =>
    by_cases e : i = m
    · subst e; exact ⟨[], by rw [enumTo_succ]; simp⟩
    · obtain ⟨r, hr⟩ := ih (by omega)
      exact ⟨r ++ enum f lo hi k (pre ++ [lo[pre.length]?.getD 0 + (m : Int)]), by rw [enumTo_succ, hr]; simp⟩

def StepOut (q : NP) (J : List (List Int) → World → Prop) (Jx : World → Prop) (pre : List Int) (done : List (List Int)) (W' : World) (b : Bool) : Prop :=
  (b = true ∧ J done W' ∧ NEnv q W' ∧ Buf q W' pre) ∨ (b = false ∧ Jx W')

/-- the new number as a slice of its own -/
def StepOne (w W' : World) (v : Int) (x : Value) : Prop := ∃ g, x = .slice (some ⟨g, 0, none⟩) 1 1 ∧ w.heap.size ≤ g ∧ W'.cell? ⟨g, 0, none⟩ = some (.int .i64 v)

structure R7 (q : NP) (J : List (List Int) → World → Prop) (Jx : World → Prop) (pre : List Int) (out : List (List Int)) (wr : World) (v : Int) (done : Nat → Bool) (u : Nat → Value) (W : World) : Prop where
  only : done 5 = false → Only (fun b => b = q.p) wr W
  gr : done 4 = false → Gr wr W
  one : done 4 = false → done 3 = true → StepOne wr W v (u 3)
  buf : done 5 = false → done 4 = true → Buf q W (pre ++ [v])
  fin : done 5 = true → ∃ b, u 5 = .bool b ∧ StepOut q J Jx pre out W b ∧ (done 6 = true → u 6 = .bool (!b))

theorem R7.quiet {q : NP} {J : List (List Int) → World → Prop} {Jx : World → Prop} {pre : List Int} {out : List (List Int)} {wr : World} {v : Int} {done : Nat → Bool} {u : Nat → Value} {W : World} (h : R7 q J Jx pre out wr v done u W) {i : Nat} (hi : i < 3) (x : Value) :
    R7 q J Jx pre out wr v (upd done i) (fun j => if j = i then x else u j) W := by
  have e3 : (3 : Nat) ≠ i := by omega
  have e4 : (4 : Nat) ≠ i := by omega
  have e5 : (5 : Nat) ≠ i := by omega
  have e6 : (6 : Nat) ≠ i := by omega
  refine ⟨?_, ?_, ?_, ?_, ?_⟩ <;> simp only [upd_ne e3, upd_ne e4, upd_ne e5, upd_ne e6, if_neg e3, if_neg e5, if_neg e6]
  · exact h.only
  · exact h.gr
  · exact h.one
  · exact h.buf
  · exact h.fin
end
section
open Go.RowKit

set_option maxHeartbeats 1000000 in
theorem next_step (q : NP) (Y : Nat → Prop) (J : List (List Int) → World → Prop) (Jx : World → Prop) (all : List (List Int)) (H : NHyp q Y J Jx all) (k : Nat) (pre : List Int) (done rest : List (List Int)) (W : World)
    (ih : ∀ (v : Int) (done rest : List (List Int)) (W : World), (0 ≤ v ∧ v ≤ ((q.f.times[pre.length]?.getD []).length : Int)) → NEnv q W → Buf q W (pre ++ [v]) → J done W → all = done ++ (enum q.f q.lo q.hi k (pre ++ [v]) ++ rest) →
      Calls Try.prog 91 #[.slice (some ⟨q.p, 0, none⟩) (pre.length + 1) q.n, .pointer (some ⟨q.bfr, 0, none⟩), .pointer (some ⟨q.bfl, 0, none⟩), .pointer (some ⟨q.by_, 0, none⟩), .pointer (some ⟨q.bto, 0, none⟩), .pointer (some ⟨q.bn, 0, none⟩)] W
        (NPost q J Jx (pre ++ [v]) (done ++ enum q.f q.lo q.hi k (pre ++ [v]))))
    (hl : pre.length + (k + 1) = q.n) (hE : NEnv q W) (hB : Buf q W pre) (hJ : J done W) (hall : all = done ++ (enum q.f q.lo q.hi (k + 1) pre ++ rest)) :
    Calls Try.prog 91 #[.slice (some ⟨q.p, 0, none⟩) pre.length q.n, .pointer (some ⟨q.bfr, 0, none⟩), .pointer (some ⟨q.bfl, 0, none⟩), .pointer (some ⟨q.by_, 0, none⟩), .pointer (some ⟨q.bto, 0, none⟩), .pointer (some ⟨q.bn, 0, none⟩)] W
      (NPost q J Jx pre (done ++ enum q.f q.lo q.hi (k + 1) pre)) := by
  have hn6 : q.n ≤ 6 := by have := H.ok.n6; have := H.nt; omega
  have hcfr := hE.cfr
  have hlt : pre.length < q.n := by omega
  have hne : ((pre.length : Int) == (q.n : Int)) = false := by rw [beq_eq_false_iff_ne]; omega
  obtain ⟨fa, hfa, hfb, hfc⟩ := hE.ilo.at hlt
  have hlo0 := H.lo0 _ hlt
  have hhi1 := H.hi1 _ hlt
  have hrow := H.ok.row pre.length (by rw [← H.nt]; exact hlt)
  rw [hfa] at hcfr
  have IH := Lib.hid ih
  have HALL := Lib.hid hall
  have HL := Lib.hid hl
  clear ih hall hl
  go_enter Try.func91, Try.ntmps91
  go_wp2_with fail
  go_loopw [9] (fun x wr => ∃ i : Nat, i ≤ (q.hi[pre.length]?.getD 0 - q.lo[pre.length]?.getD 0 + 1).toNat ∧ x = .int .i64 (q.lo[pre.length]?.getD 0 + (i : Int)) ∧ Hid (J (done ++ enumTo q.f q.lo q.hi k pre i) wr) ∧ NEnv q wr ∧ Buf q wr pre) (fun x _ => (q.hi[pre.length]?.getD 0 + 1 - intOf x).toNat)
  case atStart => exact ⟨0, Nat.zero_le _, by simp, Lib.hid (by simpa [enumTo] using hJ), hE, hB⟩
  case round =>
    obtain ⟨i, hi, rfl, hJr, hEr, hBr⟩ := hrel
    have hcto := hEr.cto
    obtain ⟨ha, hha, hhb, hhc⟩ := hEr.ihi.at hlt
    by_cases hle : q.lo[pre.length]?.getD 0 + (i : Int) ≤ q.hi[pre.length]?.getD 0
    · have hM : i < (q.hi[pre.length]?.getD 0 - q.lo[pre.length]?.getD 0 + 1).toNat := by omega
      have hsp := Lib.hid (enum_split q.f q.lo q.hi k pre i hM)
      have hsu := Lib.hid (enumTo_succ q.f q.lo q.hi k pre i)
      rw [hha] at hcto
      generalize hv : q.lo[pre.length]?.getD 0 + (i : Int) = v at *
      have hv0 : 0 ≤ v ∧ v ≤ ((q.f.times[pre.length]?.getD []).length : Int) := by omega
      have HV := Lib.hid hv
      clear hv
      go_wp2_with fail
      refine (wpIn_wide (n := 0)).1 ?_
      refine region_inv (F := Fence.wide) (by kernel_rfl) (by rfl) (by decide) (fun _ => trivial)
        (fun done' u W' => Kn [some (.func (.func 91) #[] #[.pointer (some ⟨q.bfr, 0, none⟩), .pointer (some ⟨q.bfl, 0, none⟩), .pointer (some ⟨q.by_, 0, none⟩), .pointer (some ⟨q.bto, 0, none⟩), .pointer (some ⟨q.bn, 0, none⟩)]), some (.slice (some ⟨q.p, 0, none⟩) pre.length q.n), some (.int .i64 v), none, some (.slice (some ⟨q.p, 0, none⟩) (pre.length + 1) q.n), none, none] done' u ∧
          R7 q J Jx pre (done ++ enumTo q.f q.lo q.hi k pre (i + 1)) wr v done' u W')
        (fun u => ⟨Kn.start _ _, ⟨fun _ => (Gr.drew wr).only _, fun _ => Gr.drew wr, (fun _ h => by cases h), (fun _ h => by cases h), (fun h => by cases h)⟩⟩) ⟨?_, ?_, ?_, ?_, ?_, ?_, ?_, trivial⟩ ?_
      · rintro u done' W' hd hanc hclo ⟨hk, hR⟩
        have hc := (H.env _ _ hEr ((hR.only (not_done hclo hd 5 rfl (by kernel_rfl))).mono (fun _ _ h => .inr h))).cn_
        refine op_plain (ro := none) rfl (fun c h => by cases h) fun K hK => ?_
        simp only [fillL, List.setIfInBounds_toArray, List.set_cons_zero, List.set_cons_succ, Nat.zero_add, Nat.reduceAdd] at hK ⊢
        go_simp
        exact hK _ _ ⟨hk.new rfl, hR.quiet (by decide) _⟩
      · rintro u done' W' hd hanc hclo ⟨hk, hR⟩
        refine op_plain (ro := none) rfl (fun c h => by cases h) fun K hK => ?_
        simp only [fillL, List.setIfInBounds_toArray, List.set_cons_zero, List.set_cons_succ, Nat.zero_add, Nat.reduceAdd] at hK ⊢
        go_simp
        exact hK _ _ ⟨hk.new rfl, hR.quiet (by decide) _⟩
      · rintro u done' W' hd hanc hclo ⟨hk, hR⟩
        refine op_plain (ro := none) rfl (fun c h => by cases h) fun K hK => ?_
        simp only [fillL, List.setIfInBounds_toArray, List.set_cons_zero, List.set_cons_succ, Nat.zero_add, Nat.reduceAdd] at hK ⊢
        go_simp
        exact hK _ _ ⟨hk.new rfl, hR.quiet (by decide) _⟩
      · rintro u done' W' hd hanc hclo ⟨hk, hR⟩
        have e2 := hk.get 2 rfl (hanc 2 (mem_of (by kernel_rfl)))
        have h4 : done' 4 = false := not_done hclo hd 4 rfl (by kernel_rfl)
        have h5 : done' 5 = false := not_done hclo hd 5 rfl (by kernel_rfl)
        have hg := hR.gr h4
        refine op_plain (ro := none) rfl (fun c h => by cases h) fun K hK => ?_
        simp only [fillL, List.setIfInBounds_toArray, List.set_cons_zero, List.set_cons_succ, Nat.zero_add, Nat.reduceAdd, e2] at hK ⊢
        go_simp
        refine hK _ _ ⟨hk.skip rfl, ⟨fun _ => (hg.allocR _).only _, fun _ => hg.allocR _, fun _ _ => ⟨_, rfl, hg.size, ?_⟩, (fun _ h => by rw [upd_ne (by decide), h4] at h; cases h), (fun h => by rw [upd_ne (by decide), h5] at h; cases h)⟩⟩
        simp
      · rintro u done' W' hd hanc hclo ⟨hk, hR⟩
        have e1 := hk.get 1 rfl (hanc 1 (mem_of (by kernel_rfl)))
        have h5 : done' 5 = false := not_done hclo hd 5 rfl (by kernel_rfl)
        have hg := hR.gr hd
        obtain ⟨g, e3, hge, hgc⟩ := hR.one hd (hanc 3 (mem_of (by kernel_rfl)))
        obtain ⟨i0, hi0, hz0, hz1, hz2⟩ := info_parts Try.info3
        have hbW : Buf q W' pre := by
          obtain ⟨rst, hbk, hrl⟩ := hBr
          exact ⟨rst, (hg.below.block _ hEr.pl).trans hbk, hrl⟩
        obtain ⟨cur, hcb, hcs, hce⟩ := hbW.push (v := v) hlt
        refine op_plain (ro := none) rfl (fun c h => by cases h) fun K hK => ?_
        simp only [fillL, List.setIfInBounds_toArray, List.set_cons_zero, List.set_cons_succ, Nat.zero_add, Nat.reduceAdd, e1, e3] at hK ⊢
        refine wp_append_room (P := Try.prog) _ _ 26 3 i0 rfl Try.underlying26 hi0 q.p pre.length q.n cur rfl hcb ⟨g, 0, none⟩ 1 1 [.int .i64 v] rfl (by rw [hz1]; rfl) ?_ (by simp [Value.oneCell']) (by omega) (by rw [hz1]; simp; omega) ?_
        · intro j u hj
          cases j with
          | zero => simp at hj; subst hj; exact hgc
          | succ j => simp at hj
        · rw [hz1]
          simp only [List.length_singleton]
          rw [hce]
          have hs := setRow_only (arr := ((pre ++ [v]).map (Value.int .i64) ++ cur.toList.drop (pre.length + 1)).toArray) hcb
          refine hK _ _ ⟨hk.new rfl, ⟨fun _ => (hg.only _).trans hs.1, (fun h => by rw [upd_self] at h; cases h), (fun h => by rw [upd_self] at h; cases h), fun _ _ => ⟨_, hs.2, ?_⟩, (fun h => by rw [upd_ne (by decide), h5] at h; cases h)⟩⟩
          simp [hcs]; omega
      · rintro u done' W' hd hanc hclo ⟨hk, hR⟩
        have e0 := hk.get 0 rfl (hanc 0 (mem_of (by kernel_rfl)))
        have e4 := hk.get 4 rfl (hanc 4 (mem_of (by kernel_rfl)))
        have ho := hR.only hd
        have hb := hR.buf hd (hanc 4 (mem_of (by kernel_rfl)))
        have hEn := H.env _ _ hEr (ho.mono (fun _ _ h => .inr h))
        have hJn := H.hJ _ _ _ hJr.out ho
        obtain ⟨r, hr⟩ := hsp.out
        have hcon := IH.out v (done ++ enumTo q.f q.lo q.hi k pre i) (r ++ rest) W' hv0 hEn hb hJn (by rw [HALL.out, hr]; simp)
        have HCON := Lib.hid hcon
        have h6 : done' 6 = false := not_done hclo hd 6 rfl (by kernel_rfl)
        clear hcon hr
        refine op_plain (ro := none) rfl (fun c h => by cases h) fun K hK => ?_
        simp only [fillL, List.setIfInBounds_toArray, List.set_cons_zero, List.set_cons_succ, Nat.zero_add, Nat.reduceAdd, e0, e4] at hK ⊢
        go_simp
        refine HCON.out.mono ?_
        rintro e w2 hpost
        have hout : ∃ b, e = .returned (.bool b) ∧ StepOut q J Jx pre (done ++ enumTo q.f q.lo q.hi k pre (i + 1)) w2 b := by
          rcases hpost with ⟨h, hj, he, hb⟩ | ⟨h, hx⟩
          · exact ⟨true, h, .inl ⟨rfl, by rw [hsu.out, ← List.append_assoc]; exact hj, he, hb.shorten⟩⟩
          · exact ⟨false, h, .inr ⟨rfl, hx⟩⟩
        obtain ⟨b, rfl, hso⟩ := hout
        exact hK _ _ ⟨hk.skip rfl, ⟨(fun h => by rw [upd_self] at h; cases h), (fun h => by rw [upd_ne (by decide), hanc 4 (mem_of (by kernel_rfl))] at h; cases h), (fun h => by rw [upd_ne (by decide), hanc 4 (mem_of (by kernel_rfl))] at h; cases h), (fun h => by rw [upd_self] at h; cases h),
          fun _ => ⟨b, rfl, hso, fun h => by rw [upd_ne (by decide), h6] at h; cases h⟩⟩⟩
      · rintro u done' W' hd hanc hclo ⟨hk, hR⟩
        obtain ⟨b, e5, hso, _⟩ := hR.fin (hanc 5 (mem_of (by kernel_rfl)))
        refine op_plain (ro := none) rfl (fun c h => by cases h) fun K hK => ?_
        simp only [fillL, List.setIfInBounds_toArray, List.set_cons_zero, List.set_cons_succ, Nat.zero_add, Nat.reduceAdd, e5] at hK ⊢
        go_simp
        exact hK _ _ ⟨hk.skip rfl, ⟨(fun h => by rw [upd_ne (by decide), hanc 5 (mem_of (by kernel_rfl))] at h; cases h), (fun h => by rw [upd_ne (by decide), hanc 4 (mem_of (by kernel_rfl))] at h; cases h), (fun h => by rw [upd_ne (by decide), hanc 4 (mem_of (by kernel_rfl))] at h; cases h), (fun h => by rw [upd_ne (by decide), hanc 5 (mem_of (by kernel_rfl))] at h; cases h),
          fun _ => ⟨b, by simpa using e5, hso, fun _ => by simp⟩⟩⟩
      · rintro u W' ⟨done', hdn, hk, hR⟩
        obtain ⟨b, e5, hso, h6⟩ := hR.fin (hdn 5 (by decide))
        have e6 := h6 (hdn 6 (by decide))
        simp only [fillL, List.setIfInBounds_toArray, List.set_cons_zero, List.set_cons_succ, Nat.zero_add, Nat.reduceAdd, e6]
        rcases hso with ⟨rfl, hj, he, hb⟩ | ⟨rfl, hx⟩
        · have HJ := Lib.hid hj
          clear hj
          go_wp2
          go_roundw
          case rel => exact ⟨i + 1, by omega, by rw [← HV.out]; go_num, HJ, he, hb⟩
          case measure => simp [intOf]; omega
        · go_wp2
          go_ret
          exact .inr ⟨rfl, hx⟩
    · have hM : i = (q.hi[pre.length]?.getD 0 - q.lo[pre.length]?.getD 0 + 1).toNat := by omega
      have hfin : Hid (enum q.f q.lo q.hi (k + 1) pre = enumTo q.f q.lo q.hi k pre i) := Lib.hid (by rw [hM]; rfl)
      have HM := Lib.hid hM
      clear hM
      rw [hha] at hcto
      go_wp2_with fail
      go_ret
      exact .inl ⟨rfl, by rw [hfin.out]; exact hJr.out, hEr, hBr⟩
end
section
open Go.RowKit

theorem next_any (q : NP) (Y : Nat → Prop) (J : List (List Int) → World → Prop) (Jx : World → Prop) (all : List (List Int)) (H : NHyp q Y J Jx all) : ∀ (k : Nat) (pre : List Int) (done rest : List (List Int)) (W : World),
    pre.length + k = q.n → (∀ c, c < pre.length → 0 ≤ pre[c]?.getD 0 ∧ pre[c]?.getD 0 ≤ ((q.f.times[c]?.getD []).length : Int)) → NEnv q W → Buf q W pre → J done W → all = done ++ (enum q.f q.lo q.hi k pre ++ rest) →
    Calls Try.prog 91 #[.slice (some ⟨q.p, 0, none⟩) pre.length q.n, .pointer (some ⟨q.bfr, 0, none⟩), .pointer (some ⟨q.bfl, 0, none⟩), .pointer (some ⟨q.by_, 0, none⟩), .pointer (some ⟨q.bto, 0, none⟩), .pointer (some ⟨q.bn, 0, none⟩)] W
      (NPost q J Jx pre (done ++ enum q.f q.lo q.hi k pre)) := by
  intro k
  induction k with
  | zero =>
    intro pre done rest W hl hv hE hB hJ hall
    have hl' : pre.length = q.n := by omega
    have := next_leaf q Y J Jx all H pre done rest W hl' ⟨by rw [hl', H.nt], fun c hc => hv c (by rw [hl', H.nt]; exact hc)⟩ hE hB hJ hall
    rw [hl']
    exact this
  | succ k ih =>
    intro pre done rest W hl hv hE hB hJ hall
    refine next_step q Y J Jx all H k pre done rest W (fun v done rest W hvv hE hB hJ hall => ?_) hl hE hB hJ hall
    have := ih (pre ++ [v]) done rest W (by simp; omega) (fun c hc => ?_) hE hB hJ hall
    · simpa using this
    · by_cases e : c = pre.length
      · subst e; simpa using hvv
      · have hc' : c < pre.length := by simp at hc; omega
        rw [List.getElem?_append_left hc']
        exact hv c hc'

/-- what the iterator leaves: it went through, or it was stopped -/
def SPost (J : List (List Int) → World → Prop) (Jx : World → Prop) (all : List (List Int)) (e : Ending) (W' : World) : Prop := (∃ v, e = .returned v) ∧ (J all W' ∨ Jx W')

/-- the data that the iterator reads, in the world where it was made, and what may have turned since -/
structure SBase (wB : World) (S : Nat → Prop) (f : Fl) (ta : Option Addr) (tn : Nat) (ca : Option Addr) (cn : Nat) (fa toa : Option Addr) (n : Nat) (lo hi : List Int) : Prop where
  ok : FlOk f
  fl : FlAt wB ta tn ca cn f
  ilo : Ints wB fa n lo
  ihi : Ints wB toa n hi
  keep : ∀ W, Only S wB W → FlAt W ta tn ca cn f ∧ Ints W fa n lo ∧ Ints W toa n hi
  new : ∀ b, wB.heap.size ≤ b → S b
  n1 : 1 ≤ n
  nt : n = f.times.length
  lo0 : ∀ c, c < n → 0 ≤ lo[c]?.getD 0
  hi1 : ∀ c, c < n → hi[c]?.getD 0 ≤ ((f.times[c]?.getD []).length : Int)

structure R3 (q : NP) (J : List (List Int) → World → Prop) (Jx : World → Prop) (all : List (List Int)) (w2 : World) (done : Nat → Bool) (u : Nat → Value) (W : World) : Prop where
  gr : done 4 = false → Gr w2 W
  sz : done 3 = false → W.heap.size = w2.heap.size
  buf : done 4 = false → done 3 = true → Buf q W [] ∧ q.p < W.heap.size
  fin : done 4 = true → J all W ∨ Jx W

theorem R3.quiet {q : NP} {J : List (List Int) → World → Prop} {Jx : World → Prop} {all : List (List Int)} {w2 : World} {done : Nat → Bool} {u : Nat → Value} {W : World} (h : R3 q J Jx all w2 done u W) {i : Nat} (hi : i < 3) (x : Value) :
    R3 q J Jx all w2 (upd done i) (fun j => if j = i then x else u j) W := by
  have e3 : (3 : Nat) ≠ i := by omega
  have e4 : (4 : Nat) ≠ i := by omega
  refine ⟨?_, ?_, ?_, ?_⟩ <;> simp only [upd_ne e3, upd_ne e4]
  · exact h.gr
  · exact h.sz
  · exact h.buf
  · exact h.fin
end
section
open Go.RowKit

theorem cell_new {w : World} {cs : Array Value} {t : TypeId} {j : Nat} {v : Value} (h : cs[j]? = some v) : (w.alloc (.cells cs t)).cell? ⟨w.heap.size, j, none⟩ = some v := by
  have := World.alloc_heap_new w (.cells cs t)
  unfold World.cell?
  simp only [this]
  exact h

theorem run_makeSlice_ints (w : World) (n : Nat) (hn : n ≤ 6) : (Instr.makeSlice 26 (.int .i64 0) (.int .i64 (n : Int))).run Try.prog w = .ok (.slice (some ⟨w.heap.size, 0, none⟩) 0 n) (w.alloc (.cells (List.replicate n (.int .i64 0)).toArray 3)) := by
  obtain rfl | rfl | rfl | rfl | rfl | rfl | rfl : n = 0 ∨ n = 1 ∨ n = 2 ∨ n = 3 ∨ n = 4 ∨ n = 5 ∨ n = 6 := by omega
  all_goals kernel_rfl

set_option maxHeartbeats 1000000 in
theorem states1_any (wB W0 : World) (S Y : Nat → Prop) (J : List (List Int) → World → Prop) (Jx : World → Prop) (f : Fl) (ta ca fa toa : Option Addr) (tn tc cn cc n fc toc : Nat) (lo hi : List Int) (bfr bfl bto l : Nat)
    (hb : SBase wB S f ta tn ca cn fa toa n lo hi) (hbase : Only S wB W0) (hYS : ∀ b, Y b → S b) (hYlt : ∀ b, Y b → b < W0.heap.size)
    (c1 : W0.cell? ⟨bfr, 0, none⟩ = some (.slice fa n fc)) (c2 : W0.cell? ⟨bfl, 0, none⟩ = some (.slice ta tn tc)) (c3 : W0.cell? ⟨bfl, 1, none⟩ = some (.slice ca cn cc)) (c4 : W0.cell? ⟨bto, 0, none⟩ = some (.slice toa n toc))
    (n1 : ¬ Y bfr) (n2 : ¬ Y bfl) (n3 : ¬ Y bto) (hJ0 : J [] W0) (hJ : ∀ done W W', J done W → Only (fun b => b = W0.heap.size + 2) W W' → J done W') (hJx : ∀ W W', Jx W → Gr W W' → Jx W')
    (hY : ∀ done x rest W a c, J done W → Only S wB W → Ints W (some a) n x → Is3 W a.block → W0.heap.size + 2 < a.block → enum f lo hi n [] = done ++ x :: rest → StOk f x → worksB f x = true →
      YieldAt Fence.wide 0 Try.prog l #[.slice (some a) n c] W fun e W' => (e = .returned (.bool true) ∧ J (done ++ [x]) W' ∧ Only Y W W') ∨ (e = .returned (.bool false) ∧ Jx W')) :
    Calls Try.prog 90 #[.func (.yield l) #[] #[], .pointer (some ⟨bfr, 0, none⟩), .pointer (some ⟨bfl, 0, none⟩), .pointer (some ⟨bto, 0, none⟩)] W0 (SPost J Jx (enum f lo hi n [])) := by
  have hn6 : n ≤ 6 := by have := hb.ok.n6; have := hb.nt; omega
  obtain ⟨q, hq⟩ : ∃ q : NP, q = ⟨bfr, bfl, W0.heap.size, bto, W0.heap.size + 1, W0.heap.size + 2, l, fa, fc, ta, tn, tc, ca, cn, cc, toa, toc, n, f, lo, hi, wB, S⟩ := ⟨_, rfl⟩
  have hsz0 : wB.heap.size ≤ W0.heap.size := hbase.size
  have H : NHyp q Y J Jx (enum f lo hi n []) := by
    subst hq
    refine ⟨hb.ok, hb.n1, hb.nt, hb.lo0, hb.hi1, ?_, fun h => by have := hYlt _ h; simp only at this; omega, fun done W W' hj ho => hJ done W W' hj ho, hJx, ?_⟩
    · intro W W' hE ho
      have hbs : Only S wB W' := hE.base.trans (ho.mono (fun b _ h => by
        rcases h with h | h
        · exact hYS b h
        · subst h; exact hb.new _ (by simp; omega)))
      have hk : ∀ (p : Addr) (v : Value), W.cell? p = some v → ¬ Y p.block → p.block ≠ W0.heap.size + 2 → W'.cell? p = some v := fun p v hc h1 h2 => ho.cell hc (fun h => h.elim h1 h2)
      have l1 := lt_cell c1
      have l2 := lt_cell c2
      have l4 := lt_cell c4
      simp only at l1 l2 l4
      refine ⟨hk _ _ hE.cfr n1 (by simp only; omega), hk _ _ hE.cfl0 n2 (by simp only; omega), hk _ _ hE.cfl1 n2 (by simp only; omega), hk _ _ hE.cy (fun h => by have := hYlt _ h; simp only at this; omega) (by simp), hk _ _ hE.cto n3 (by simp only; omega), hk _ _ hE.cn_ (fun h => by have := hYlt _ h; simp only at this; omega) (by simp),
        (hb.keep _ hbs).1, (hb.keep _ hbs).2.1, (hb.keep _ hbs).2.2, Nat.lt_of_lt_of_le hE.pl ho.size, hbs⟩
    · intro done x rest W a c hj hE hi h3 hp hall hst hw
      exact hY done x rest W a c hj hE.base hi h3 hp hall hst hw
  obtain ⟨w2, hw2⟩ : ∃ w2, (W0.alloc (.cells #[.func (.yield l) #[] #[]] 118)).alloc (.cells #[.func (.func 91) #[] #[.pointer (some ⟨bfr, 0, none⟩), .pointer (some ⟨bfl, 0, none⟩), .pointer (some ⟨W0.heap.size, 0, none⟩), .pointer (some ⟨bto, 0, none⟩), .pointer (some ⟨W0.heap.size + 1, 0, none⟩)]] 118) = w2 := ⟨_, rfl⟩
  have g2 : Gr W0 w2 := by rw [← hw2]; exact (Gr.alloc _ _).allocR _
  have s2 : w2.heap.size = W0.heap.size + 2 := by rw [← hw2]; simp
  have cy2 : w2.cell? ⟨W0.heap.size, 0, none⟩ = some (.func (.yield l) #[] #[]) := by
    rw [← hw2, (Gr.alloc _ _).cell (by simp)]; exact cell_new rfl
  have cn2 : w2.cell? ⟨W0.heap.size + 1, 0, none⟩ = some (.func (.func 91) #[] #[.pointer (some ⟨bfr, 0, none⟩), .pointer (some ⟨bfl, 0, none⟩), .pointer (some ⟨W0.heap.size, 0, none⟩), .pointer (some ⟨bto, 0, none⟩), .pointer (some ⟨W0.heap.size + 1, 0, none⟩)]) := by
    rw [← hw2]; simp
  have c12 := (g2.cell (lt_cell c1)).trans c1
  have HQ := Lib.hid hq
  have S2 := Lib.hid s2
  go_enter Try.func90, Try.ntmps90
  go_wp2_with fail
  clear hw2
  refine (wpIn_wide (n := 0)).1 ?_
  refine region_inv (F := Fence.wide) (by kernel_rfl) (by rfl) (by decide) (fun _ => trivial)
    (fun done' u W' => Kn [some (.func (.func 91) #[] #[.pointer (some ⟨bfr, 0, none⟩), .pointer (some ⟨bfl, 0, none⟩), .pointer (some ⟨W0.heap.size, 0, none⟩), .pointer (some ⟨bto, 0, none⟩), .pointer (some ⟨W0.heap.size + 1, 0, none⟩)]), some (.slice fa n fc), some (.int .i64 (n : Int)), some (.slice (some ⟨W0.heap.size + 2, 0, none⟩) 0 n), none] done' u ∧ R3 q J Jx (enum f lo hi n []) w2 done' u W')
    (fun u => ⟨Kn.start _ _, ⟨fun _ => Gr.drew w2, fun _ => rfl, (fun _ h => by cases h), (fun h => by cases h)⟩⟩) ⟨?_, ?_, ?_, ?_, ?_, trivial⟩ ?_
  · rintro u done' W' hd hanc hclo ⟨hk, hR⟩
    have hg := hR.gr (not_done hclo hd 4 rfl (by kernel_rfl))
    have hc := (hg.cell (lt_cell cn2)).trans cn2
    refine op_plain (ro := none) rfl (fun c h => by cases h) fun K hK => ?_
    simp only [fillL, List.setIfInBounds_toArray, List.set_cons_zero, List.set_cons_succ, Nat.zero_add, Nat.reduceAdd] at hK ⊢
    go_simp
    exact hK _ _ ⟨hk.new rfl, hR.quiet (by decide) _⟩
  · rintro u done' W' hd hanc hclo ⟨hk, hR⟩
    have hg := hR.gr (not_done hclo hd 4 rfl (by kernel_rfl))
    have hc := (hg.cell (lt_cell c12)).trans c12
    refine op_plain (ro := none) rfl (fun c h => by cases h) fun K hK => ?_
    simp only [fillL, List.setIfInBounds_toArray, List.set_cons_zero, List.set_cons_succ, Nat.zero_add, Nat.reduceAdd] at hK ⊢
    go_simp
    exact hK _ _ ⟨hk.new rfl, hR.quiet (by decide) _⟩
  · rintro u done' W' hd hanc hclo ⟨hk, hR⟩
    have e1 := hk.get 1 rfl (hanc 1 (mem_of (by kernel_rfl)))
    refine op_plain (ro := none) rfl (fun c h => by cases h) fun K hK => ?_
    simp only [fillL, List.setIfInBounds_toArray, List.set_cons_zero, List.set_cons_succ, Nat.zero_add, Nat.reduceAdd, e1] at hK ⊢
    go_simp
    exact hK _ _ ⟨hk.new rfl, hR.quiet (by decide) _⟩
  · rintro u done' W' hd hanc hclo ⟨hk, hR⟩
    have e2 := hk.get 2 rfl (hanc 2 (mem_of (by kernel_rfl)))
    have h4 : done' 4 = false := not_done hclo hd 4 rfl (by kernel_rfl)
    have hg := hR.gr h4
    have hsz := (hR.sz hd).trans S2.out
    have hmk := run_makeSlice_ints W' n hn6
    rw [hsz] at hmk
    refine op_plain (ro := none) rfl (fun c h => by cases h) fun K hK => ?_
    simp only [fillL, List.setIfInBounds_toArray, List.set_cons_zero, List.set_cons_succ, Nat.zero_add, Nat.reduceAdd, e2] at hK ⊢
    have HS := Lib.hid hsz
    clear hsz
    go_simp
    refine hK _ _ ⟨hk.new rfl, ⟨fun _ => hg.allocR _, (fun h => by rw [upd_self] at h; cases h), fun _ _ => ⟨⟨List.replicate n (.int .i64 0), ?_, by rw [HQ.out]; simp⟩, ?_⟩, (fun h => by rw [upd_ne (by decide), h4] at h; cases h)⟩⟩
    · rw [HQ.out]; simp only; rw [← HS.out]; exact World.alloc_heap_new _ _
    · rw [HQ.out]; simp only [World.size_alloc]; rw [HS.out]; omega
  · rintro u done' W' hd hanc hclo ⟨hk, hR⟩
    have e0 := hk.get 0 rfl (hanc 0 (mem_of (by kernel_rfl)))
    have e3 := hk.get 3 rfl (hanc 3 (mem_of (by kernel_rfl)))
    have hg := hR.gr hd
    obtain ⟨hbuf, hpl⟩ := hR.buf hd (hanc 3 (mem_of (by kernel_rfl)))
    have hgg := g2.trans hg
    have hbs : Only S wB W' := hbase.thenGr hgg
    have hE : NEnv q W' := by
      rw [HQ.out] at hpl ⊢
      exact ⟨(hgg.cell (lt_cell c1)).trans c1, (hgg.cell (lt_cell c2)).trans c2, (hgg.cell (lt_cell c3)).trans c3, (hg.cell (lt_cell cy2)).trans cy2, (hgg.cell (lt_cell c4)).trans c4, (hg.cell (lt_cell cn2)).trans cn2, (hb.keep _ hbs).1, (hb.keep _ hbs).2.1, (hb.keep _ hbs).2.2, hpl, hbs⟩
    have hall : enum f lo hi n [] = [] ++ (enum q.f q.lo q.hi n [] ++ []) := by rw [HQ.out]; simp
    have hcon := next_any q Y J Jx (enum f lo hi n []) H n [] [] [] W' (by rw [HQ.out]; simp) (fun c h => by simp at h) hE hbuf (hJ _ _ _ hJ0 (hgg.only _)) hall
    have hpost : ∀ e W'', NPost q J Jx [] ([] ++ enum q.f q.lo q.hi n []) e W'' → (∃ v, e = .returned v) ∧ (J (enum f lo hi n []) W'' ∨ Jx W'') := by
      rw [HQ.out]
      rintro e W'' (⟨h1, h2, _⟩ | ⟨h1, h2⟩)
      · exact ⟨⟨_, h1⟩, .inl (by simpa using h2)⟩
      · exact ⟨⟨_, h1⟩, .inr h2⟩
    have hcon2 : Calls Try.prog 91 #[.slice (some ⟨W0.heap.size + 2, 0, none⟩) 0 n, .pointer (some ⟨bfr, 0, none⟩), .pointer (some ⟨bfl, 0, none⟩), .pointer (some ⟨W0.heap.size, 0, none⟩), .pointer (some ⟨bto, 0, none⟩), .pointer (some ⟨W0.heap.size + 1, 0, none⟩)] W' (fun e W'' => (∃ v, e = .returned v) ∧ (J (enum f lo hi n []) W'' ∨ Jx W'')) := by
      have := hcon.mono hpost
      rw [HQ.out] at this
      exact this
    have HCON := Lib.hid hcon2
    clear hcon hcon2 hpost hall
    refine op_plain (ro := none) rfl (fun c h => by cases h) fun K hK => ?_
    simp only [fillL, List.setIfInBounds_toArray, List.set_cons_zero, List.set_cons_succ, Nat.zero_add, Nat.reduceAdd, e0, e3] at hK ⊢
    go_simp
    refine HCON.out.mono ?_
    rintro e w3 ⟨⟨v, rfl⟩, hfin⟩
    exact hK _ _ ⟨hk.skip rfl, ⟨(fun h => by rw [upd_self] at h; cases h), (fun h => by rw [upd_ne (by decide), hanc 3 (mem_of (by kernel_rfl))] at h; cases h), (fun h => by rw [upd_self] at h; cases h), fun _ => hfin⟩⟩
  · rintro u W' ⟨done', hdn, hk, hR⟩
    have hf := hR.fin (hdn 4 (by decide))
    go_wp2
    go_end0
    exact ⟨⟨_, rfl⟩, hf⟩
end
section
open Go.RowKit

/-- the iterator and its three boxes -/
def NewIter (w : World) (va vb vc vd : Value) (e : Ending) (w' : World) : Prop :=
  e = .returned (.func (.func 90) #[] #[.pointer (some ⟨w.heap.size + 1, 0, none⟩), .pointer (some ⟨w.heap.size, 0, none⟩), .pointer (some ⟨w.heap.size + 2, 0, none⟩)]) ∧
    w' = ((w.alloc (.cells #[va, vb] 25)).alloc (.cells #[vc] 26)).alloc (.cells #[vd] 26)

theorem states_any (ta ca fa toa : Option Addr) (tn tc cn cc fn fc ton toc : Nat) (w : World) :
    Calls Try.prog 59 #[.agg #[.slice ta tn tc, .slice ca cn cc], .slice fa fn fc, .slice toa ton toc] w (NewIter w (.slice ta tn tc) (.slice ca cn cc) (.slice fa fn fc) (.slice toa ton toc)) := by
  go_enter Try.func59, Try.ntmps59
  go_wp2
  go_ret
  exact ⟨rfl, rfl⟩

theorem NewIter.facts {w w' : World} {va vb vc vd : Value} {e : Ending} (h : NewIter w va vb vc vd e w') : Gr w w' ∧ w'.heap.size = w.heap.size + 3 ∧ w'.cell? ⟨w.heap.size, 0, none⟩ = some va ∧ w'.cell? ⟨w.heap.size, 1, none⟩ = some vb ∧ w'.cell? ⟨w.heap.size + 1, 0, none⟩ = some vc ∧ w'.cell? ⟨w.heap.size + 2, 0, none⟩ = some vd := by
  obtain ⟨_, rfl⟩ := h
  have s1 : (w.alloc (.cells #[va, vb] 25)).heap.size = w.heap.size + 1 := by simp
  have s2 : ((w.alloc (.cells #[va, vb] 25)).alloc (.cells #[vc] 26)).heap.size = w.heap.size + 2 := by simp
  have g2 := (Gr.alloc (w.alloc (.cells #[va, vb] 25)) (.cells #[vc] 26)).allocR (.cells #[vd] 26)
  have g3 := Gr.alloc ((w.alloc (.cells #[va, vb] 25)).alloc (.cells #[vc] 26)) (.cells #[vd] 26)
  refine ⟨((Gr.alloc _ _).allocR _).allocR _, by simp, ?_, ?_, ?_, ?_⟩
  · exact (g2.cell (by simp)).trans (cell_new rfl)
  · exact (g2.cell (by simp)).trans (cell_new rfl)
  · rw [← s1]; exact (g3.cell (by simp)).trans (cell_new rfl)
  · rw [← s2]; exact cell_new rfl
end
section
open Go.RowKit

theorem putObj_only (W : World) (r : Nat) (o : Obj) : Only (fun b => b = r) W (W.putObj r o) := Only.putObj (S := fun b => b = r) (Only.refl _ W) (.inl rfl) o
theorem alloc_only (W : World) (o : Obj) (S : Nat → Prop) : Only S W (W.alloc o) := (Gr.alloc W o).only S

theorem Only.mono' {S S' : Nat → Prop} {a b : World} (h : Only S a b) (hs : ∀ i, S i → S' i) : Only S' a b := h.mono (fun i _ => hs i)

theorem Is3.lt {W : World} {b : Nat} (h : Is3 W b) : b < W.heap.size := by
  obtain ⟨_, _, hb⟩ := h
  exact (Array.getElem?_eq_some_iff.1 hb).1
theorem Is3.only {S : Nat → Prop} {W W' : World} {b : Nat} (h : Is3 W b) (g : Only S W W') (hs : ¬ S b) : Is3 W' b := by
  have hlt := h.lt
  obtain ⟨cur, fr, hb⟩ := h
  exact ⟨cur, fr, (g.block b hlt hs).trans hb⟩
theorem Is3.onlyN {S : Nat → Prop} {W W' : World} {b : Nat} (h : Is3 W b) (g : Only S W W') (hn : NoCells S W) : Is3 W' b := by
  refine h.only g (fun hs => ?_)
  obtain ⟨cur, fr, hb⟩ := h
  exact hn b cur 3 fr hs hb
theorem Is3.gr {W W' : World} {b : Nat} (h : Is3 W b) (g : Gr W W') : Is3 W' b := by
  have hlt := h.lt
  obtain ⟨cur, fr, hb⟩ := h
  exact ⟨cur, fr, (g.below.block b hlt).trans hb⟩
/-- what a round is handed -/
def SArg (wB w : World) (S : Nat → Prop) (f : Fl) (lo hi : List Int) (n : Nat) (x : List Int) (args : Array Value) (W : World) : Prop :=
  ∃ ad c, args = #[.slice (some ad) n c] ∧ Ints W (some ad) n x ∧ w.heap.size + 4 < ad.block ∧ x ∈ enum f lo hi n [] ∧ StOk f x ∧ worksB f x = true ∧ Only S wB W ∧ Is3 W ad.block

theorem range_states {g : Operand} {pt : Tmp} {assign body : Code} {Q : Exit → Act → World → Prop} {a : Act} {w wB : World} {S Y : Nat → Prop} {f : Fl} {ta ca fa toa : Option Addr} {tn tc cn cc n fc toc : Nat} {lo hi : List Int} {bfr bfl bto : Nat}
    (hg : a.eval g = .func (.func 90) #[] #[.pointer (some ⟨bfr, 0, none⟩), .pointer (some ⟨bfl, 0, none⟩), .pointer (some ⟨bto, 0, none⟩)])
    (hb : SBase wB S f ta tn ca cn fa toa n lo hi) (hbase : Only S wB w) (hYS : ∀ b, Y b → S b) (hYlt : ∀ b, Y b → b < w.heap.size)
    (c1 : w.cell? ⟨bfr, 0, none⟩ = some (.slice fa n fc)) (c2 : w.cell? ⟨bfl, 0, none⟩ = some (.slice ta tn tc)) (c3 : w.cell? ⟨bfl, 1, none⟩ = some (.slice ca cn cc)) (c4 : w.cell? ⟨bto, 0, none⟩ = some (.slice toa n toc))
    (n1 : ¬ Y bfr) (n2 : ¬ Y bfl) (n3 : ¬ Y bto) (I : List (List Int) → World → Prop) (Ix : Code → World → Prop)
    (h0 : I [] w) (hI : ∀ xs W W', I xs W → Only (fun b => b = w.heap.size + 1 ∨ b = w.heap.size + 4) W W' → I xs W')
    (hIx : ∀ c W W', Ix c W → Only (fun b => b = w.heap.size + 1) W W' → Ix c W') (a₁ : Value → Act)
    (hassign : ∀ (l : Nat) (v : Value) (W : World) (K : Act → World → Prop), K (a₁ v) W → assign.wpIn (Fence.wide.inRound l) 0 Try.prog (Exit.then K (fun _ _ _ => False)) { tmps := a.tmps.setIfInBounds pt v, defers := [] } W)
    (hbody : ∀ (pre : List (List Int)) (x : List Int) (ad : Addr) (c : Nat) (W : World), I pre W → Only S wB W → Ints W (some ad) n x → w.heap.size + 4 < ad.block → Is3 W ad.block → x ∈ enum f lo hi n [] → StOk f x → worksB f x = true →
      body.wpIn (Fence.wide.inRound (w.heap.size + 1)) 0 Try.prog (roundQ Y I Ix (pre ++ [x]) W) (a₁ (.slice (some ad) n c)) W)
    (hdone : ∀ (W : World), I (enum f lo hi n []) W → W.heap[w.heap.size]? = some (.deferred (some [])) → Q .normal { a with defers := { target := .collected w.heap.size, args := #[] } :: a.defers } W)
    (hstop : ∀ (c : Code) (W : World), Ix c W → W.heap[w.heap.size]? = some (.deferred (some [])) → c.wpIn Fence.wide 0 Try.prog Q { a with defers := { target := .collected w.heap.size, args := #[] } :: a.defers } W) :
    (Code.rangeFunc g #[pt] assign body).wp Try.prog Q a w := by
  have hsz := hbase.size
  refine range_rule (P := Try.prog) (α := List Int) (gf := 90) (lb := #[.pointer (some ⟨bfr, 0, none⟩), .pointer (some ⟨bfl, 0, none⟩), .pointer (some ⟨bto, 0, none⟩)]) hg (Go.Proofs.enters_of Try.func90 (by kernel_rfl) rfl)
    I Ix Y (SArg wB w S f lo hi n) (fun xs => xs = enum f lo hi n []) (fun args => a₁ (args.getD 0 undef)) (fun h => by have := hYlt _ h; omega) (fun h => by have := hYlt _ h; omega)
    (fun xs W o h => hI xs W _ h ((putObj_only _ _ _).mono' (fun i e => .inl e))) (fun c W o h => hIx c W _ h (putObj_only _ _ _))
    (fun x args W h => by obtain ⟨ad, c, rfl, _⟩ := h; rfl)
    (fun x args W o h => by
      obtain ⟨ad, c, h1, h2, h3, h4, h5, h6, h7, h8⟩ := h
      exact ⟨ad, c, h1, h2.onlyAt (putObj_only _ _ _) (fun ad' e hS => by cases e; omega), h3, h4, h5, h6, h7.trans ((putObj_only _ _ _).mono' (fun i e => by subst e; exact hb.new _ (by omega))), h8.only (putObj_only _ _ _) (by omega)⟩)
    h0 (fun xs W o h => hI xs W _ h (alloc_only _ _ _)) (fun l x args W K hE hK => by
      obtain ⟨ad, c, rfl, _⟩ := hE
      have h1 := hassign l (.slice (some ad) n c) W K hK
      simpa using h1)
    (fun pre x args W hi hE _ => by
      obtain ⟨ad, c, rfl, h2, h3, h4, h5, h6, h7, h8⟩ := hE
      exact hbody pre x ad c W hi h7 h2 h3 h8 h4 h5 h6) ?_ (fun xs W hS hi hk => by subst hS; exact hdone W hi hk) hstop
  intro L hLs hLp hyield hstart
  obtain ⟨W0, hW0⟩ : ∃ W0, (w.alloc (.deferred (some []))).alloc (.loop L) = W0 := ⟨_, rfl⟩
  have g0 : Gr w W0 := by rw [← hW0]; exact (Gr.alloc _ _).allocR _
  have s0 : W0.heap.size = w.heap.size + 2 := by rw [← hW0]; simp
  rw [hW0] at hstart ⊢
  refine callsIn_wide.2 ?_
  have hcall := states1_any wB W0 S Y (Between w.heap.size L I) (Left w.heap.size L Ix) f ta ca fa toa tn tc cn cc n fc toc lo hi bfr bfl bto (w.heap.size + 1) hb (hbase.thenGr g0) hYS (fun b h => Nat.lt_of_lt_of_le (hYlt b h) g0.size)
    ((g0.cell (lt_cell c1)).trans c1) ((g0.cell (lt_cell c2)).trans c2) ((g0.cell (lt_cell c3)).trans c3) ((g0.cell (lt_cell c4)).trans c4) n1 n2 n3 hstart
    (fun done W W' h ho => by
      rw [s0] at ho
      obtain ⟨hi, hl, hk⟩ := h
      have l1 := (Array.getElem?_eq_some_iff.1 hl).1
      have l2 := (Array.getElem?_eq_some_iff.1 hk).1
      exact ⟨hI _ _ _ hi (ho.mono' (fun i e => .inr e)), (ho.block _ l1 (by omega)).trans hl, (ho.block _ l2 (by omega)).trans hk⟩)
    (fun W W' h g => by
      obtain ⟨c, hi, hl, hk⟩ := h
      have l1 := (Array.getElem?_eq_some_iff.1 hl).1
      have l2 := (Array.getElem?_eq_some_iff.1 hk).1
      exact ⟨c, hIx _ _ _ hi (g.only _), (g.below.block _ l1).trans hl, (g.below.block _ l2).trans hk⟩)
    (fun done x rest W ad c hj hon hin h3 hp hall hst hw => by
      have hE : SArg wB w S f lo hi n x #[.slice (some ad) n c] W := ⟨ad, c, rfl, hin, by omega, by rw [hall]; simp, hst, hw, hon, h3⟩
      exact (hyield done x _ W hj hE).mono (fun e W' h => by
        rcases h with ⟨h1, h2, h3⟩ | ⟨h1, h2⟩
        · exact .inl ⟨h1, h2, h3⟩
        · exact .inr ⟨h1, h2⟩))
  refine hcall.mono (fun e W' h => ?_)
  obtain ⟨hv, h | h⟩ := h
  · exact ⟨hv, .inl ⟨_, rfl, h⟩⟩
  · exact ⟨hv, .inr h⟩
end
section
open Go.RowKit

theorem frozen_of_block {w w' : World} {a : Addr} (h : w'.heap[a.block]? = w.heap[a.block]?) : w'.frozen? a = w.frozen? a := by
  unfold World.frozen?
  rw [h]

/-- these cells hold these values and may be written -/
def LCells (w : World) (L : List (Addr × Value)) : Prop := ∀ p ∈ L, w.cell? p.1 = some p.2 ∧ w.frozen? p.1 = false
theorem LCells.only {S : Nat → Prop} {w w' : World} {L : List (Addr × Value)} (h : LCells w L) (g : Only S w w') (hs : ∀ p ∈ L, ¬ S p.1.block) : LCells w' L := fun p hp => by
  have h1 := h p hp
  have hlt := lt_cell h1.1
  exact ⟨g.cell h1.1 (hs p hp), (frozen_of_block (g.block _ hlt (hs p hp))).trans h1.2⟩
theorem LCells.onlyN {S : Nat → Prop} {w w' : World} {L : List (Addr × Value)} (h : LCells w L) (g : Only S w w') (hn : NoCells S w) : LCells w' L := h.only g (fun p hp hs => by
  obtain ⟨cs, t, fr, hb⟩ := cell_block (h p hp).1
  exact hn _ _ _ _ hs hb)
theorem LCells.gr {w w' : World} {L : List (Addr × Value)} (h : LCells w L) (g : Gr w w') : LCells w' L := fun p hp => by
  have h1 := h p hp
  exact ⟨(g.cell (lt_cell h1.1)).trans h1.1, (g.frozen (lt_cell h1.1)).trans h1.2⟩
theorem LCells.lt {w : World} {L : List (Addr × Value)} (h : LCells w L) : ∀ p ∈ L, p.1.block < w.heap.size := fun p hp => lt_cell (h p hp).1
theorem LCells.at {w : World} {L : List (Addr × Value)} (h : LCells w L) (i : Nat) {p : Addr × Value} (hp : L[i]? = some p) : w.cell? p.1 = some p.2 := (h p (List.mem_of_getElem? hp)).1
theorem LCells.fr {w : World} {L : List (Addr × Value)} (h : LCells w L) (i : Nat) {p : Addr × Value} (hp : L[i]? = some p) : w.frozen? p.1 = false := (h p (List.mem_of_getElem? hp)).2

/-- operation i alone writes: before it the world is as it was -/
structure Tail (i : Nat) (w : World) (P : World → Prop) (done : Nat → Bool) (W : World) : Prop where
  before : done i = false → W = w.drew
  after : done i = true → P W
theorem Tail.start {i : Nat} {w : World} {P : World → Prop} : Tail i w P (fun _ => false) w.drew := ⟨fun _ => rfl, fun h => by cases h⟩
theorem Tail.quiet {i : Nat} {w W : World} {P : World → Prop} {done : Nat → Bool} (h : Tail i w P done W) {j : Nat} (hj : i ≠ j) : Tail i w P (upd done j) W := by
  refine ⟨?_, ?_⟩ <;> simp only [upd_ne hj]
  · exact h.before
  · exact h.after
theorem Tail.done {i : Nat} {w W : World} {P : World → Prop} {d : Nat → Bool} (h : P W) : Tail i w P (upd d i) W := ⟨(fun h => by rw [upd_self] at h; cases h), fun _ => h⟩
end
section
open Go.RowKit

/-- these cells hold these values -/
def RCells (w : World) (L : List (Addr × Value)) : Prop := ∀ p ∈ L, w.cell? p.1 = some p.2
theorem RCells.nil (w : World) : RCells w [] := fun p hp => by simp at hp
theorem RCells.gr {w w' : World} {L : List (Addr × Value)} (h : RCells w L) (g : Gr w w') : RCells w' L := fun p hp => (g.cell (lt_cell (h p hp))).trans (h p hp)
theorem RCells.at {w : World} {L : List (Addr × Value)} (h : RCells w L) (i : Nat) {p : Addr × Value} (hp : L[i]? = some p) : w.cell? p.1 = some p.2 := h p (List.mem_of_getElem? hp)
/-- the cells of block b -/
def bcells (b : Nat) : List Value → Nat → List (Addr × Value)
  | [], _ => []
  | v :: r, k => (⟨b, k, none⟩, v) :: bcells b r (k + 1)
theorem bcells_mem {b : Nat} : ∀ {l : List Value} {k : Nat} {p : Addr × Value}, p ∈ bcells b l k → ∃ j, p.1 = ⟨b, k + j, none⟩ ∧ l[j]? = some p.2 := by
  intro l
  induction l with
  | nil => intro k p h; simp [bcells] at h
  | cons v r ih =>
    intro k p h
    simp only [bcells, List.mem_cons] at h
    rcases h with rfl | h
    · exact ⟨0, rfl, rfl⟩
    · obtain ⟨j, h1, h2⟩ := ih h
      exact ⟨j + 1, by rw [h1, show k + (j + 1) = k + 1 + j by omega], by simpa using h2⟩
theorem RCells.box {w : World} {L : List (Addr × Value)} (h : RCells w L) {b : Nat} (cs : Array Value) (t : TypeId) (hb : w.heap.size = b) : RCells (w.alloc (.cells cs t)) (L ++ bcells b cs.toList 0) := by
  intro p hp
  rcases List.mem_append.1 hp with hp | hp
  · exact h.gr (Gr.alloc _ _) p hp
  · obtain ⟨j, h1, h2⟩ := bcells_mem hp
    rw [h1, ← hb, Nat.zero_add]
    exact cell_new (by simpa using h2)
theorem RCells.append {w : World} {L M : List (Addr × Value)} (h : RCells w L) (k : RCells w M) : RCells w (L ++ M) := fun p hp => by
  rcases List.mem_append.1 hp with hp | hp
  · exact h p hp
  · exact k p hp
theorem RCells.cons {w : World} {M : List (Addr × Value)} {a : Addr} {v : Value} (h : w.cell? a = some v) (k : RCells w M) : RCells w ((a, v) :: M) := fun p hp => by
  rcases List.mem_cons.1 hp with rfl | hp
  · exact h
  · exact k p hp
end
section
open Go.RowKit
namespace X
variable {P : Program} {o : Oper} {ρ : Operand → Value} {W W' : World}

theorem w0 {y : Nat → Option Bool} (hg : o.guard = none) : Region.wanted o y = true := by simp [Region.wanted, hg]
theorem w1 {y : Nat → Option Bool} {j : Nat} {b : Bool} (hg : o.guard = some (j, b)) (hy : y j = some b) : Region.wanted o y = true := by simp [Region.wanted, hg, hy]
theorem w2 {y : Nat → Option Bool} {j : Nat} {b b' : Bool} (hg : o.guard = some (j, b)) (hy : y j = some b') (hne : (b' == b) = false) : Region.wanted o y = false := by simp [Region.wanted, hg, hy]; simpa using hne

section
variable {l : List Oper} {vs : List (Option Value)} {Q : Exit → Act → World → Prop} {R : (Nat → Bool) → (Nat → Value) → World → Prop} {i : Nat} {A : Act} {done : Nat → Bool} {u : Nat → Value} {y : Nat → Option Bool}
/-- an operation that gives a value -/
theorem val {v : Value} (hw : Region.wanted o y = true) (hv : vs[i]? = some (some v)) (hrun : (execOp A.eval o).run P W = .ok (.value v) W') (hR : R (upd done i) (fun j => if j = i then v else u j) W') :
    if Region.wanted o y then ∀ K : Act → World → Prop, (∀ v W', (∀ x, vs[i]? = some (some x) → v = x) → R (upd done i) (fun j => if j = i then v else u j) W' → K (A.put o.dst v) W') → o.wp P A W K Q
    else (vs[i]? = some none ∧ R (upd done i) (fun j => if j = i then undef else u j) W) := by
  rw [if_pos hw]
  intro K hK
  unfold Oper.wp
  rw [hrun]
  exact hK v W' (fun x hx => by rw [hv] at hx; injection hx with hx; injection hx) hR
/-- an operation whose value is not known ahead -/
theorem valN {v : Value} (hw : Region.wanted o y = true) (hv : vs[i]? = some none) (hrun : (execOp A.eval o).run P W = .ok (.value v) W') (hR : R (upd done i) (fun j => if j = i then v else u j) W') :
    if Region.wanted o y then ∀ K : Act → World → Prop, (∀ v W', (∀ x, vs[i]? = some (some x) → v = x) → R (upd done i) (fun j => if j = i then v else u j) W' → K (A.put o.dst v) W') → o.wp P A W K Q
    else (vs[i]? = some none ∧ R (upd done i) (fun j => if j = i then undef else u j) W) := by
  rw [if_pos hw]
  intro K hK
  unfold Oper.wp
  rw [hrun]
  exact hK v W' (fun x hx => by rw [hv] at hx; cases hx) hR
/-- an operation that gives none -/
theorem unit (hw : Region.wanted o y = true) (hv : vs[i]? = some none) (hrun : (execOp A.eval o).run P W = .ok .skip W') (hR : R (upd done i) (fun j => if j = i then undef else u j) W') :
    if Region.wanted o y then ∀ K : Act → World → Prop, (∀ v W', (∀ x, vs[i]? = some (some x) → v = x) → R (upd done i) (fun j => if j = i then v else u j) W' → K (A.put o.dst v) W') → o.wp P A W K Q
    else (vs[i]? = some none ∧ R (upd done i) (fun j => if j = i then undef else u j) W) := by
  rw [if_pos hw]
  intro K hK
  unfold Oper.wp
  rw [hrun]
  exact hK undef W' (fun x hx => by rw [hv] at hx; cases hx) hR
/-- an operation that is not wanted -/
theorem skip (hw : Region.wanted o y = false) (hv : vs[i]? = some none) (hR : R (upd done i) (fun j => if j = i then undef else u j) W) :
    if Region.wanted o y then ∀ K : Act → World → Prop, (∀ v W', (∀ x, vs[i]? = some (some x) → v = x) → R (upd done i) (fun j => if j = i then v else u j) W' → K (A.put o.dst v) W') → o.wp P A W K Q
    else (vs[i]? = some none ∧ R (upd done i) (fun j => if j = i then undef else u j) W) := by
  rw [if_neg (by rw [hw]; decide)]
  exact ⟨hv, hR⟩
/-- a call by its contract -/
theorem call {F : FuncId} {args : Array Value} {T : Ending → World → Prop} (hw : Region.wanted o y = true) (hrun : (execOp A.eval o).run P W = .ok (.enter F args) W) (hc : Calls P F args W T)
    (hT : ∀ e W', T e W' → ∃ v, e = .returned v ∧ (∀ x, vs[i]? = some (some x) → v = x) ∧ R (upd done i) (fun j => if j = i then v else u j) W') :
    if Region.wanted o y then ∀ K : Act → World → Prop, (∀ v W', (∀ x, vs[i]? = some (some x) → v = x) → R (upd done i) (fun j => if j = i then v else u j) W' → K (A.put o.dst v) W') → o.wp P A W K Q
    else (vs[i]? = some none ∧ R (upd done i) (fun j => if j = i then undef else u j) W) := by
  rw [if_pos hw]
  intro K hK
  unfold Oper.wp
  rw [hrun]
  refine hc.mono fun e W' h => ?_
  obtain ⟨v, rfl, h1, h2⟩ := hT e W' h
  exact hK v W' h1 h2
/-- a builtin by a law at Oper.wp -/
theorem law (hw : Region.wanted o y = true) (h : ∀ K : Act → World → Prop, (∀ v W', (∀ x, vs[i]? = some (some x) → v = x) → R (upd done i) (fun j => if j = i then v else u j) W' → K (A.put o.dst v) W') → o.wp P A W K Q) :
    if Region.wanted o y then ∀ K : Act → World → Prop, (∀ v W', (∀ x, vs[i]? = some (some x) → v = x) → R (upd done i) (fun j => if j = i then v else u j) W' → K (A.put o.dst v) W') → o.wp P A W K Q
    else (vs[i]? = some none ∧ R (upd done i) (fun j => if j = i then undef else u j) W) := by
  rw [if_pos hw]; exact h
end

theorem run_v {s : Sem Value} {v : Value} (h : s.run P W = .ok v W') : (do pure (Next.value (← s)) : Sem Next).run P W = .ok (.value v) W' := by simp [h, go_sem]
theorem run_u {s : Sem Unit} (h : s.run P W = .ok () W') : (do s; pure Next.skip : Sem Next).run P W = .ok .skip W' := by simp [h, go_sem]

theorem move {x : Operand} {v : Value} (ho : o.op = .move x) (hx : ρ x = v) : (execOp ρ o).run P W = .ok (.value v) W := by
  unfold execOp; rw [ho]; simp [hx]
theorem assign {x : Operand} {v : Value} (ho : o.op = .assign x) (hx : ρ x = v) : (execOp ρ o).run P W = .ok (.value v) W := by
  unfold execOp; rw [ho]; simp [hx]
theorem pickT {c x y : Operand} {v : Value} (ho : o.op = .pick c x y) (hc : ρ c = .bool true) (hx : ρ x = v) : (execOp ρ o).run P W = .ok (.value v) W := by
  unfold execOp; rw [ho]; simp [hc, hx, asBool, go_sem]
theorem pickF {c x y : Operand} {v : Value} (ho : o.op = .pick c x y) (hc : ρ c = .bool false) (hy : ρ y = v) : (execOp ρ o).run P W = .ok (.value v) W := by
  unfold execOp; rw [ho]; simp [hc, hy, asBool, go_sem]
theorem load {t : TypeId} {x : Operand} {p : Value} {v : Value} (ho : o.op = .load t x) (hx : ρ x = p) (hr : (Instr.loadAt t p).run P W = .ok v W) : (execOp ρ o).run P W = .ok (.value v) W := by
  unfold execOp; rw [ho]; simp only [hx]; exact run_v hr
theorem store {t : TypeId} {x y : Operand} {p v : Value} (ho : o.op = .store t x y) (hx : ρ x = p) (hy : ρ y = v) (hr : (Instr.storeAt t p v).run P W = .ok () W') : (execOp ρ o).run P W = .ok .skip W' := by
  unfold execOp; rw [ho]; simp only [hx, hy]; exact run_u hr
theorem extract {x : Operand} {k : Nat} {vs : Array Value} {v : Value} (ho : o.op = .extract x k) (hx : ρ x = .tuple vs) (hv : vs[k]? = some v) : (execOp ρ o).run P W = .ok (.value v) W := by
  unfold execOp; rw [ho]; simp [hx, Instr.extract, hv, go_sem]
theorem notB {b : Bool} {t : TypeId} {x : Operand} (ho : o.op = .unOp .not t x) (hx : ρ x = .bool b) {c : Bool} (hc : (!b) = c) : (execOp ρ o).run P W = .ok (.value (.bool c)) W := by
  unfold execOp; rw [ho]; simp [hx, Op.unary, hc, go_sem]
theorem binop {op : BinOp} {t t' : TypeId} {x y : Operand} {p q v : Value} (ho : o.op = .binOp op t x y t') (hx : ρ x = p) (hy : ρ y = q) (hr : (do eqGuard op t x y p q; binOp op t p q : Sem Value).run P W = .ok v W) : (execOp ρ o).run P W = .ok (.value v) W := by
  unfold execOp; rw [ho]; simp only [hx, hy]; exact run_v hr
theorem field {t : TypeId} {x : Operand} {k : Nat} {p v : Value} (ho : o.op = .fieldAddr t x k) (hx : ρ x = p) (hr : (Instr.fieldAt t p k).run P W = .ok v W) : (execOp ρ o).run P W = .ok (.value v) W := by
  unfold execOp; rw [ho]; simp only [hx]; exact run_v hr
theorem index {t : TypeId} {x y : Operand} {p q v : Value} (ho : o.op = .indexAddr t x y) (hx : ρ x = p) (hy : ρ y = q) (hr : (Instr.indexAt t p q).run P W = .ok v W) : (execOp ρ o).run P W = .ok (.value v) W := by
  unfold execOp; rw [ho]; simp only [hx, hy]; exact run_v hr
theorem box {t : TypeId} {x : Operand} {p v : Value} (ho : o.op = .box t x) (hx : ρ x = p) (hr : (Instr.box t p).run P W = .ok v W') : (execOp ρ o).run P W = .ok (.value v) W' := by
  unfold execOp; rw [ho]; simp only [hx]; exact run_v hr
theorem len1 {x : Operand} {tx e : TypeId} {a : Option Addr} {n c : Nat} (hu : P.underlying tx = some (.slice e)) (ho : o.op = .call { callee := .builtin .len, args := #[x], argTypes := #[tx] }) (hx : ρ x = .slice a n c) : (execOp ρ o).run P W = .ok (.value (.int .i64 n)) W := by
  unfold execOp; rw [ho]; simp [hx, resolve, invoke, builtin, Builtin.len_, run_underlying hu, go_sem]
theorem enter {f : Operand} {args : Array Operand} {ats : Array TypeId} {F : FuncId} {cap : Array Value} {vs : List Value} (ho : o.op = .call { callee := .value f, args := args, argTypes := ats }) (hf : ρ f = .func (.func F) #[] cap) (hargs : args.toList.map ρ = vs)
    (he : ∀ W, (callFunc F (vs.toArray ++ cap)).run P W = .ok (.enter F (vs.toArray ++ cap)) W) : (execOp ρ o).run P W = .ok (.enter F (vs.toArray ++ cap)) W := by
  unfold execOp; rw [ho]
  have : (args.map ρ) = vs.toArray := by
    cases args with
    | mk l => subst hargs; simp
  simp [hf, resolve, invoke, this, go_sem, he]

/-- loads -/
theorem ld1 {t : TypeId} {p : Addr} {v : Value} (hA : (isAgg t).run P W = .ok false W) (hc : W.cell? p = some v) : (Instr.loadAt t (.pointer (some p))).run P W = .ok v W := by
  simp [Instr.loadAt, loadVar, Instr.sureAddr, hA, hc, go_sem]
theorem loadCells_run {p : Addr} : ∀ (n k : Nat) (acc : Array Value) (vs : List Value), vs.length = n → (∀ j v, vs[j]? = some v → W.cell? (p.add (k + j)) = some v) → (loadCellsFrom p k n acc).run P W = .ok (acc ++ vs.toArray) W := by
  intro n
  induction n with
  | zero => intro k acc vs hl _; have : vs = [] := List.eq_nil_of_length_eq_zero hl; subst this; simp [loadCellsFrom, go_sem]
  | succ n ih =>
    intro k acc vs hl h
    match vs, hl with
    | v :: r, hl =>
      have h0 := h 0 v rfl
      have h2 := ih (k + 1) (acc.push v) r (by simpa using hl) (fun j x hx => by have := h (j + 1) x (by simpa using hx); rw [show k + 1 + j = k + (j + 1) by omega]; exact this)
      rw [Nat.add_zero] at h0
      rw [show acc ++ (v :: r).toArray = acc.push v ++ r.toArray by simp]
      simp [loadCellsFrom, go_sem, h0, h2]
theorem ldN {t : TypeId} {p : Addr} {vs : List Value} (hA : (isAgg t).run P W = .ok true W) (hS : (sizeOf t).run P W = .ok vs.length W) (hc : ∀ j v, vs[j]? = some v → W.cell? (p.add j) = some v) : (Instr.loadAt t (.pointer (some p))).run P W = .ok (.agg vs.toArray) W := by
  have := loadCells_run (P := P) (W := W) (p := p) vs.length 0 #[] vs rfl (fun j v h => by rw [Nat.zero_add]; exact hc j v h)
  simp [Instr.loadAt, loadVar, Instr.sureAddr, hA, hS, loadCells, this, go_sem]
/-- the address of a field -/
theorem fld {t : TypeId} {p : Addr} {k sz : Nat} {fs : Array Field} {f : Field} (hu : P.underlying t = some (.struct fs)) (hf : fs[k]? = some f) (hS : (sizeOf f.type).run P W = .ok sz W) (h0 : (sz == 0) = false) {q : Addr} (hq : p.add f.offset = q) : (Instr.fieldAt t (.pointer (some p)) k).run P W = .ok (.pointer (some q)) W := by
  subst hq
  have h1 : ¬ sz = 0 := by simpa using h0
  simp [Instr.fieldAt, run_underlying hu, hf, Instr.sureAddr, fieldPlace, hS, h1, go_sem]
/-- the address of an element -/
theorem idx {t e : TypeId} {p : Addr} {n c k sz : Nat} (hu : P.underlying t = some (.slice e)) (hS : (sizeOf e).run P W = .ok sz W) (hk : k < n) {z : Int} (hz : z = (k : Int)) {q : Addr} (hq : p.add (k * sz) = q) : (Instr.indexAt t (.slice (some p) n c) (.int .i64 z)).run P W = .ok (.pointer (some q)) W := by
  subst hz hq
  have h1 : (0 : Int) ≤ k ∧ (k : Int) < n := by omega
  simp [Instr.indexAt, run_underlying hu, hS, asIntOf, h1, go_sem]
  intro h; omega
theorem bx {t : TypeId} {vs : Array Value} : (Instr.box t (.agg vs)).run P W = .ok (.pointer (some ⟨W.heap.size, 0, none⟩)) (W.alloc (.cells vs t)) := by
  simp [Instr.box, newVar, newRow, Value.cells, go_sem]
/-- tests -/
theorem eqlI {t : TypeId} (_hu : P.underlying t = some (.int .i64)) {x y : Operand} {p q : Int} {b : Bool} (hb : (p == q) = b) : (do eqGuard .eql t x y (.int .i64 p) (.int .i64 q); binOp .eql t (.int .i64 p) (.int .i64 q) : Sem Value).run P W = .ok (.bool b) W := by
  subst hb; simp [eqGuard, binOp, go_sem]
theorem neqI {t : TypeId} (_hu : P.underlying t = some (.int .i64)) {x y : Operand} {p q : Int} {b : Bool} (hb : (p != q) = b) : (do eqGuard .neq t x y (.int .i64 p) (.int .i64 q); binOp .neq t (.int .i64 p) (.int .i64 q) : Sem Value).run P W = .ok (.bool b) W := by
  subst hb; simp [eqGuard, binOp, go_sem]
theorem lssI {t : TypeId} (_hu : P.underlying t = some (.int .i64)) {x y : Operand} {p q : Int} {b : Bool} (hb : decide (p < q) = b) : (do eqGuard .lss t x y (.int .i64 p) (.int .i64 q); binOp .lss t (.int .i64 p) (.int .i64 q) : Sem Value).run P W = .ok (.bool b) W := by
  subst hb; simp [eqGuard, binOp, go_sem]
theorem leqI {t : TypeId} (_hu : P.underlying t = some (.int .i64)) {x y : Operand} {p q : Int} {b : Bool} (hb : decide (p ≤ q) = b) : (do eqGuard .leq t x y (.int .i64 p) (.int .i64 q); binOp .leq t (.int .i64 p) (.int .i64 q) : Sem Value).run P W = .ok (.bool b) W := by
  subst hb; simp [eqGuard, binOp, go_sem]
theorem gtrI {t : TypeId} (_hu : P.underlying t = some (.int .i64)) {x y : Operand} {p q : Int} {b : Bool} (hb : decide (q < p) = b) : (do eqGuard .gtr t x y (.int .i64 p) (.int .i64 q); binOp .gtr t (.int .i64 p) (.int .i64 q) : Sem Value).run P W = .ok (.bool b) W := by
  subst hb; simp [eqGuard, binOp, go_sem]
theorem geqI {t : TypeId} (_hu : P.underlying t = some (.int .i64)) {x y : Operand} {p q : Int} {b : Bool} (hb : decide (q ≤ p) = b) : (do eqGuard .geq t x y (.int .i64 p) (.int .i64 q); binOp .geq t (.int .i64 p) (.int .i64 q) : Sem Value).run P W = .ok (.bool b) W := by
  subst hb; simp [eqGuard, binOp, go_sem]
theorem addI {t : TypeId} (_hu : P.underlying t = some (.int .i64)) {x y : Operand} {p q z : Int} (hz : p + q = z) (h0 : -9223372036854775808 ≤ z) (h1 : z ≤ 9223372036854775807) : (do eqGuard .add t x y (.int .i64 p) (.int .i64 q); binOp .add t (.int .i64 p) (.int .i64 q) : Sem Value).run P W = .ok (.int .i64 z) W := by
  subst hz; simp [eqGuard, binOp, go_sem, IntWalk.i64_in _ ⟨h0, h1⟩]
theorem subI {t : TypeId} (_hu : P.underlying t = some (.int .i64)) {x y : Operand} {p q z : Int} (hz : p - q = z) (h0 : -9223372036854775808 ≤ z) (h1 : z ≤ 9223372036854775807) : (do eqGuard .sub t x y (.int .i64 p) (.int .i64 q); binOp .sub t (.int .i64 p) (.int .i64 q) : Sem Value).run P W = .ok (.int .i64 z) W := by
  subst hz; simp [eqGuard, binOp, go_sem, IntWalk.i64_in _ ⟨h0, h1⟩]
theorem c2 {W : World} {p : Addr} {v0 v1 : Value} (h0 : W.cell? (p.add 0) = some v0) (h1 : W.cell? (p.add 1) = some v1) : ∀ j v, [v0, v1][j]? = some v → W.cell? (p.add j) = some v := fun j v h => by
  match j with
  | 0 => simp at h; subst h; exact h0
  | 1 => simp at h; subst h; exact h1
  | j + 2 => simp at h
theorem c4 {W : World} {p : Addr} {v0 v1 v2 v3 : Value} (h0 : W.cell? (p.add 0) = some v0) (h1 : W.cell? (p.add 1) = some v1) (h2 : W.cell? (p.add 2) = some v2) (h3 : W.cell? (p.add 3) = some v3) : ∀ j v, [v0, v1, v2, v3][j]? = some v → W.cell? (p.add j) = some v := fun j v h => by
  match j with
  | 0 => simp at h; subst h; exact h0
  | 1 => simp at h; subst h; exact h1
  | 2 => simp at h; subst h; exact h2
  | 3 => simp at h; subst h; exact h3
  | j + 4 => simp at h
theorem a1 {ρ : Operand → Value} {x : Operand} {v : Value} (h : ρ x = v) : [x].map ρ = [v] := by simp [h]
theorem a2 {ρ : Operand → Value} {x y : Operand} {v z : Value} (h : ρ x = v) (k : ρ y = z) : [x, y].map ρ = [v, z] := by simp [h, k]
theorem a3 {ρ : Operand → Value} {x1 x2 x3 : Operand} {v1 v2 v3 : Value} (h1 : ρ x1 = v1) (h2 : ρ x2 = v2) (h3 : ρ x3 = v3) : [x1, x2, x3].map ρ = [v1, v2, v3] := by simp [h1, h2, h3]
theorem a4 {ρ : Operand → Value} {x1 x2 x3 x4 : Operand} {v1 v2 v3 v4 : Value} (h1 : ρ x1 = v1) (h2 : ρ x2 = v2) (h3 : ρ x3 = v3) (h4 : ρ x4 = v4) : [x1, x2, x3, x4].map ρ = [v1, v2, v3, v4] := by simp [h1, h2, h3, h4]
theorem a5 {ρ : Operand → Value} {x1 x2 x3 x4 x5 : Operand} {v1 v2 v3 v4 v5 : Value} (h1 : ρ x1 = v1) (h2 : ρ x2 = v2) (h3 : ρ x3 = v3) (h4 : ρ x4 = v4) (h5 : ρ x5 = v5) : [x1, x2, x3, x4, x5].map ρ = [v1, v2, v3, v4, v5] := by simp [h1, h2, h3, h4, h5]
end X
end
section
open Go.RowKit
namespace X
variable {P : Program}

/-- what is held of the world in a region that writes nothing old -/
def RG (w : World) : (Nat → Bool) → (Nat → Value) → World → Prop := fun _ _ W => Gr w W
def argL : List Value → Nat → List (Nat × Value)
  | [], _ => []
  | v :: r, k => (k, v) :: argL r (k + 1)
theorem argL_mem : ∀ {l : List Value} {k s : Nat} {v : Value}, (s, v) ∈ argL l k → k ≤ s ∧ l[s - k]? = some v := by
  intro l
  induction l with
  | nil => intro k s v h; simp [argL] at h
  | cons x r ih =>
    intro k s v h
    simp only [argL, List.mem_cons, Prod.mk.injEq] at h
    rcases h with ⟨rfl, rfl⟩ | h
    · simp
    · obtain ⟨h1, h2⟩ := ih h
      refine ⟨by omega, ?_⟩
      rw [show s - k = (s - (k + 1)) + 1 by omega]; simpa using h2
theorem calls {f : FuncId} {fn : Func} {c : Code} {args : Array Value} {w : World} {R : Ending → World → Prop} (N : Nat) (hf : P.funcs[f]? = some fn) (hb : fn.body = some c) (hN : args.size + (fn.ntmps - args.size) = N)
    (h : ∀ A, Fr A N (argL args.toList 0) → c.wp P (bodyPost P fn R) A w) : Calls P f args w R := by
  refine calls_of_wp hf hb (h _ ⟨by simpa using hN, rfl, fun s v hm => ?_⟩)
  obtain ⟨_, h2⟩ := argL_mem hm
  rw [Nat.sub_zero] at h2
  have hlt := (List.getElem?_eq_some_iff.1 h2).1
  show (args ++ Array.replicate (fn.ntmps - args.size) undef)[s]? = some v
  rw [Array.getElem?_append_left (by simpa using hlt)]
  simpa using h2
/-- what is known behind a region -/
theorem fr {A : Act} {n : Nat} {l : List Oper} {vs : List (Option Value)} {L : List (Nat × Value)} {D : List Deferred} (hs : A.tmps.size = n) (hd : A.defers = D) (hl : ∀ s v, lastAt l vs L s = some v → A.tmps[s]? = some v) (M : List (Nat × Value))
    (hM : M.map (fun p => lastAt l vs L p.1) = M.map (fun p => some p.2)) : Fr A n M D := by
  refine ⟨hs, hd, fun s v hm => hl s v ?_⟩
  clear hl
  induction M with
  | nil => simp at hm
  | cons p r ih =>
    simp only [List.map_cons, List.cons.injEq] at hM
    rcases List.mem_cons.1 hm with e | hm
    · subst e; exact hM.1
    · exact ih hM.2 hm
theorem _root_.Go.Proofs.Ytlilojpnhmfnaaa.Fr.sub {A : Act} {n : Nat} {L : List (Nat × Value)} {D : List Deferred} (h : Fr A n L D) (M : List (Nat × Value)) (hM : M.map (fun p => lookS L p.1) = M.map (fun p => some p.2)) : Fr A n M D := by
  refine ⟨h.sz, h.df, fun s v hm => h.look ?_⟩
  induction M with
  | nil => simp at hm
  | cons p r ih =>
    simp only [List.map_cons, List.cons.injEq] at hM
    rcases List.mem_cons.1 hm with e | hm
    · subst e; exact hM.1
    · exact ih hM.2 hm
theorem thenN {next : Act → World → Prop} {Q : Exit → Act → World → Prop} {a : Act} {w : World} (h : next a w) : Exit.then next Q .normal a w := h
theorem blockN {id : Nat} {Q : Exit → Act → World → Prop} {a : Act} {w : World} (h : Q .normal a w) : Exit.inBlock id Q .normal a w := h
theorem blockX {id : Nat} {Q : Exit → Act → World → Prop} {a : Act} {w : World} (h : Q .normal a w) : Exit.inBlock id Q (.exit id) a w := by simp [Exit.inBlock, h]
theorem thenX {id : Nat} {next : Act → World → Prop} {Q : Exit → Act → World → Prop} {a : Act} {w : World} (h : Q (.exit id) a w) : Exit.then next Q (.exit id) a w := h
theorem thenR {next : Act → World → Prop} {Q : Exit → Act → World → Prop} {a : Act} {w : World} (h : Q .ret a w) : Exit.then next Q .ret a w := h
theorem blockR {id : Nat} {Q : Exit → Act → World → Prop} {a : Act} {w : World} (h : Q .ret a w) : Exit.inBlock id Q .ret a w := h
theorem blockO {id id' : Nat} {Q : Exit → Act → World → Prop} {a : Act} {w : World} (hne : (id' == id) = false) (h : Q (.exit id') a w) : Exit.inBlock id Q (.exit id') a w := by
  have : ¬ id' = id := by simpa using hne
  simp [Exit.inBlock, this, h]
theorem kn {vs : List (Option Value)} {i : Nat} {v : Value} (h : vs[i]? = some (some v)) : ∀ x, vs[i]? = some (some x) → v = x := fun x hx => by rw [h] at hx; injection hx with hx; injection hx
theorem un {vs : List (Option Value)} {i : Nat} {v : Value} (h : vs[i]? = some none) : ∀ x, vs[i]? = some (some x) → v = x := fun x hx => by rw [h] at hx; cases hx
theorem ret1 {fn : Func} {R : Ending → World → Prop} {A : Act} {w : World} {n s : Nat} {v : Value} {L : List (Nat × Value)} (F : Fr A n L) (hr : fn.results = #[.tmp s]) (hv : lookS L s = some v) (h : R (.returned v) w) : bodyPost P fn R .ret A w := by
  have e := F.look hv
  exact ⟨F.df, v, by simp [results, hr, e, go_sem], h⟩
theorem ret2 {fn : Func} {R : Ending → World → Prop} {A : Act} {w : World} {n s t : Nat} {v x : Value} {L : List (Nat × Value)} (F : Fr A n L) (hr : fn.results = #[.tmp s, .tmp t]) (hv : lookS L s = some v) (hx : lookS L t = some x) (h : R (.returned (.tuple #[v, x])) w) : bodyPost P fn R .ret A w := by
  have e := F.look hv
  have e2 := F.look hx
  exact ⟨F.df, _, by simp [results, hr, e, e2, go_sem], h⟩
theorem ret3 {fn : Func} {R : Ending → World → Prop} {A : Act} {w : World} {n s t r : Nat} {v x y : Value} {L : List (Nat × Value)} (F : Fr A n L) (hr : fn.results = #[.tmp s, .tmp t, .tmp r]) (hv : lookS L s = some v) (hx : lookS L t = some x) (hy : lookS L r = some y) (h : R (.returned (.tuple #[v, x, y])) w) : bodyPost P fn R .ret A w := by
  have e := F.look hv
  have e2 := F.look hx
  have e3 := F.look hy
  exact ⟨F.df, _, by simp [results, hr, e, e2, e3, go_sem], h⟩
end X
end
section
open Go.RowKit
theorem Try.agg3 (w : World) : (isAgg 3).run Try.prog w = .ok false w := by kernel_rfl
theorem Try.siz3 (w : World) : (sizeOf 3).run Try.prog w = .ok 1 w := by kernel_rfl
theorem Try.agg4 (w : World) : (isAgg 4).run Try.prog w = .ok false w := by kernel_rfl
theorem Try.siz4 (w : World) : (sizeOf 4).run Try.prog w = .ok 1 w := by kernel_rfl
theorem Try.agg9 (w : World) : (isAgg 9).run Try.prog w = .ok false w := by kernel_rfl
theorem Try.siz9 (w : World) : (sizeOf 9).run Try.prog w = .ok 1 w := by kernel_rfl
theorem Try.agg22 (w : World) : (isAgg 22).run Try.prog w = .ok false w := by kernel_rfl
theorem Try.siz22 (w : World) : (sizeOf 22).run Try.prog w = .ok 1 w := by kernel_rfl
theorem Try.agg23 (w : World) : (isAgg 23).run Try.prog w = .ok false w := by kernel_rfl
theorem Try.siz23 (w : World) : (sizeOf 23).run Try.prog w = .ok 1 w := by kernel_rfl
theorem Try.agg26 (w : World) : (isAgg 26).run Try.prog w = .ok false w := by kernel_rfl
theorem Try.siz26 (w : World) : (sizeOf 26).run Try.prog w = .ok 1 w := by kernel_rfl
theorem Try.agg31 (w : World) : (isAgg 31).run Try.prog w = .ok false w := by kernel_rfl
theorem Try.siz31 (w : World) : (sizeOf 31).run Try.prog w = .ok 1 w := by kernel_rfl
theorem Try.agg53 (w : World) : (isAgg 53).run Try.prog w = .ok false w := by kernel_rfl
theorem Try.siz53 (w : World) : (sizeOf 53).run Try.prog w = .ok 1 w := by kernel_rfl
theorem Try.agg25 (w : World) : (isAgg 25).run Try.prog w = .ok true w := by kernel_rfl
theorem Try.siz25 (w : World) : (sizeOf 25).run Try.prog w = .ok 2 w := by kernel_rfl
theorem Try.agg28 (w : World) : (isAgg 28).run Try.prog w = .ok true w := by kernel_rfl
theorem Try.siz28 (w : World) : (sizeOf 28).run Try.prog w = .ok 2 w := by kernel_rfl
theorem Try.agg41 (w : World) : (isAgg 41).run Try.prog w = .ok true w := by kernel_rfl
theorem Try.siz41 (w : World) : (sizeOf 41).run Try.prog w = .ok 5 w := by kernel_rfl
theorem Try.agg46 (w : World) : (isAgg 46).run Try.prog w = .ok true w := by kernel_rfl
theorem Try.siz46 (w : World) : (sizeOf 46).run Try.prog w = .ok 4 w := by kernel_rfl
theorem Try.agg55 (w : World) : (isAgg 55).run Try.prog w = .ok true w := by kernel_rfl
theorem Try.siz55 (w : World) : (sizeOf 55).run Try.prog w = .ok 2 w := by kernel_rfl
theorem Try.agg70 (w : World) : (isAgg 70).run Try.prog w = .ok true w := by kernel_rfl
theorem Try.siz70 (w : World) : (sizeOf 70).run Try.prog w = .ok 4 w := by kernel_rfl
end
section
open Go.RowKit

theorem Try.akey : WideMaps.ArrKey Try.prog 89 3 6 := ⟨Try.underlying89, by kernel_rfl, by kernel_rfl, by kernel_rfl⟩

/-- a state as a key -/
def keyV (s : List Int) : Value := .agg #[.int .i64 (s[0]?.getD 0), .int .i64 (s[1]?.getD 0), .int .i64 (s[2]?.getD 0), .int .i64 (s[3]?.getD 0), .int .i64 (s[4]?.getD 0), .int .i64 (s[5]?.getD 0)]

/-- its numbers are small -/
def Small (s : List Int) : Prop := ∀ c : Nat, 0 ≤ s[c]?.getD 0 ∧ s[c]?.getD 0 ≤ 3

theorem keyLits_six (a0 a1 a2 a3 a4 a5 : Int) (h0 : (Lit.int .i64 a0).wf = true) (h1 : (Lit.int .i64 a1).wf = true) (h2 : (Lit.int .i64 a2).wf = true) (h3 : (Lit.int .i64 a3).wf = true) (h4 : (Lit.int .i64 a4).wf = true) (h5 : (Lit.int .i64 a5).wf = true) :
    ∃ l, keyOf Try.prog 89 (.agg #[.int .i64 a0, .int .i64 a1, .int .i64 a2, .int .i64 a3, .int .i64 a4, .int .i64 a5]) = some l := by
  unfold keyOf
  rw [Try.underlying89]
  simp only
  rw [if_pos (by kernel_rfl)]
  have hs : ∃ m, Try.prog.types.size = m + 1 := ⟨Try.prog.types.size - 1, by kernel_rfl⟩
  obtain ⟨m, hm⟩ := hs
  rw [hm]
  have c1 : Try.prog.cellsOf 89 = 6 := by kernel_rfl
  have c2 : Try.prog.cellsOf 3 = 1 := by kernel_rfl
  simp [Program.keyLits, Try.underlying89, Try.underlying3, c1, c2, Value.cells, List.range, List.range.loop, h0, h1, h2, h3, h4, h5]

theorem keyOf_keyV {s : List Int} (h : Small s) : ∃ l, keyOf Try.prog 89 (keyV s) = some l := by
  have hw : ∀ c : Nat, (Lit.int .i64 (s[c]?.getD 0)).wf = true := fun c => by
    have := h c; simp [Lit.wf, IntKind.min, IntKind.max, IntKind.signed, IntKind.bits]; omega
  exact keyLits_six _ _ _ _ _ _ (hw 0) (hw 1) (hw 2) (hw 3) (hw 4) (hw 5)

theorem keyV_inj {s t : List Int} (hl : s.length = t.length) (h6 : s.length ≤ 6) (h : keyV s = keyV t) : s = t := by
  unfold keyV at h
  injection h with h
  simp at h
  obtain ⟨h0, h1, h2, h3, h4, h5⟩ := h
  apply List.ext_getElem? 
  intro i
  by_cases hi : i < s.length
  · have hg : s[i]?.getD 0 = t[i]?.getD 0 := by
      have : i = 0 ∨ i = 1 ∨ i = 2 ∨ i = 3 ∨ i = 4 ∨ i = 5 := by omega
      rcases this with rfl | rfl | rfl | rfl | rfl | rfl <;> assumption
    have hi' : i < t.length := by omega
    simp [hi, hi'] at hg ⊢
    exact hg
  · rw [List.getElem?_eq_none (by omega), List.getElem?_eq_none (by omega)]

/-- block m is a map whose keys are states, and whose values are good for them -/
def Memo (W : World) (m : Nat) (G : List Int → Value → Prop) : Prop := ∃ es clk, W.heap[m]? = some (.map es clk) ∧ (∀ e ∈ es.toList, ∃ s, e.key = keyV s ∧ Small s ∧ G s e.val) ∧ es.toList.Pairwise (fun x y => x.key ≠ y.key)

theorem Memo.lt {W : World} {m : Nat} {G : List Int → Value → Prop} (h : Memo W m G) : m < W.heap.size := by
  obtain ⟨es, clk, hb, _⟩ := h
  exact (Array.getElem?_eq_some_iff.1 hb).1
theorem Memo.mono {W W' : World} {m : Nat} {G G' : List Int → Value → Prop} (h : Memo W m G) (hb : W'.heap[m]? = W.heap[m]?) (hG : ∀ s v, G s v → G' s v) : Memo W' m G' := by
  obtain ⟨es, clk, hm, hall, hpw⟩ := h
  exact ⟨es, clk, hb.trans hm, fun e he => by obtain ⟨s, h1, h2, h3⟩ := hall e he; exact ⟨s, h1, h2, hG _ _ h3⟩, hpw⟩

/-- a lookup: a value that is good for the state, or none -/
theorem memo_lookup {W : World} {m t e : Nat} {G : List Int → Value → Prop} {z : Value} {s : List Int} (ht : Try.prog.underlying t = some (.map 89 e)) (hz : (zeroValue e).run Try.prog W = .ok z W) (h : Memo W m G) (hs : Small s) :
    (∃ v, (Instr.lookup t (.map (some m)) (keyV s) true).run Try.prog W = .ok (.tuple #[v, .bool true]) W ∧ ∃ s', keyV s' = keyV s ∧ Small s' ∧ G s' v) ∨ (Instr.lookup t (.map (some m)) (keyV s) true).run Try.prog W = .ok (.tuple #[z, .bool false]) W := by
  obtain ⟨es, clk, hb, hall, hpw⟩ := h
  obtain ⟨l, hl⟩ := keyOf_keyV hs
  have K := Try.akey.law
  rcases K.find W hl es.toList (fun e he => by obtain ⟨s', h1, h2, _⟩ := hall e he; rw [h1]; exact keyOf_keyV h2) with ⟨h1, h2⟩ | ⟨j, e0, h1, h2, h3⟩
  · exact .inr (by simp [Instr.lookup, run_underlying ht, MapKept.run_getObj_map hb, K.check W _ hl, h1, hz, Result.andThen])
  · have hm0 : e0 ∈ es.toList := List.mem_of_getElem? h2
    obtain ⟨s', k1, k2, k3⟩ := hall e0 hm0
    exact .inl ⟨e0.val, by simp [Instr.lookup, run_underlying ht, MapKept.run_getObj_map hb, K.check W _ hl, h1, Result.andThen], s', by rw [← k1, h3], k2, k3⟩

/-- a store of a value that is good for the state -/
theorem memo_store {W : World} {m t e : Nat} {G : List Int → Value → Prop} {v : Value} {s : List Int} (ht : Try.prog.underlying t = some (.map 89 e)) (h : Memo W m G) (hs : Small s) (hG : G s v) :
    ∃ o, (Instr.mapUpdate t (.map (some m)) (keyV s) v).run Try.prog W = .ok () (W.putObj m o) ∧ Memo (W.putObj m o) m G := by
  obtain ⟨es, clk, hb, hall, hpw⟩ := h
  obtain ⟨l, hl⟩ := keyOf_keyV hs
  have K := Try.akey.law
  have hlt : m < W.heap.size := (Array.getElem?_eq_some_iff.1 hb).1
  have hset : ∀ o, (setObj m o).run Try.prog W = .ok () (W.putObj m o) := fun o => by
    simp [setObj, Sem.run, hb, World.putObj]
  rcases K.find W hl es.toList (fun e he => by obtain ⟨s', h1, h2, _⟩ := hall e he; rw [h1]; exact keyOf_keyV h2) with ⟨h1, h2⟩ | ⟨j, e0, h1, h2, h3⟩
  · refine ⟨_, by simp [Instr.mapUpdate, run_underlying ht, MapKept.run_getObj_map hb, K.check W _ hl, h1, Result.andThen, hset], es.push { key := keyV s, val := v, born := clk }, clk + 1, World.putObj_heap_same hlt, ?_, ?_⟩
    rotate_left
    · rw [Array.toList_push, List.pairwise_append]
      exact ⟨hpw, by simp, fun x hx y hy => by simp at hy; subst hy; exact h2 x hx⟩
    intro e he
    simp at he
    rcases he with he | he
    · exact hall e (by simpa using he)
    · subst he; exact ⟨s, rfl, hs, hG⟩
  · have hj : es[j]? = some e0 := by simpa using h2
    have hst := K.stays W hl
    refine ⟨_, by simp [Instr.mapUpdate, run_underlying ht, MapKept.run_getObj_map hb, K.check W _ hl, h1, Result.andThen, hset, hj, h3, hst], es.modify j fun e => { e with key := keyV s, val := v }, clk, World.putObj_heap_same hlt, ?_, ?_⟩
    rotate_left
    · have hmap : (es.modify j fun e => { e with key := keyV s, val := v }).toList.map (·.key) = es.toList.map (·.key) := by
        apply List.ext_getElem?
        intro i
        rw [List.getElem?_map, List.getElem?_map, Array.toList_modify, List.getElem?_modify]
        by_cases hji : j = i
        · subst hji; simp [hj, h3]
        · simp [hji]
      have h4 := (List.pairwise_map (f := fun e : MapEntry => e.key) (R := fun a b => a ≠ b)).2 hpw
      rw [← hmap] at h4
      exact List.pairwise_map.1 h4
    intro e he
    rw [List.mem_iff_getElem?] at he
    obtain ⟨i, hi⟩ := he
    rw [Array.toList_modify, List.getElem?_modify] at hi
    by_cases hji : j = i
    · simp [hji] at hi
      obtain ⟨x, _, rfl⟩ := hi
      exact ⟨s, rfl, hs, hG⟩
    · simp [hji] at hi
      exact hall e (List.mem_of_getElem? (by simpa using hi))
theorem pairwise_same {es : List MapEntry} (h : es.Pairwise (fun x y => x.key ≠ y.key)) {x y : MapEntry} (hx : x ∈ es) (hy : y ∈ es) (hk : x.key = y.key) : x = y := by
  induction es with
  | nil => simp at hx
  | cons a l ih =>
    rw [List.pairwise_cons] at h
    rcases List.mem_cons.1 hx with rfl | hx'
    · rcases List.mem_cons.1 hy with rfl | hy'
      · rfl
      · exact absurd hk (h.1 y hy')
    · rcases List.mem_cons.1 hy with rfl | hy'
      · exact absurd hk.symm (h.1 x hx')
      · exact ih h.2 hx' hy'
end
end Go.Proofs.Ytlilojpnhmfnaaa
