/- The closure of states: its leaf. -/
import Derived.Test.YtlilojpnhmfnaaaClone
import Derived.Test.YtlilojpnhmfnaaaAny
import Derived.Test.YtlilojpnhmfnaaaRange
namespace Go.Proofs.Ytlilojpnhmfnaaa
open Go.RowKit

/-- all states that work, from lo to hi, that go on from pre by k more computers -/
def enum (f : Fl) (lo hi : List Int) : Nat → List Int → List (List Int)
  | 0, pre => if worksB f pre then [pre] else []
  | k + 1, pre => (List.range (hi[pre.length]?.getD 0 - lo[pre.length]?.getD 0 + 1).toNat).flatMap fun (i : Nat) => enum f lo hi k (pre ++ [lo[pre.length]?.getD 0 + (i : Int)])

/-- where the closure's variables lie -/
structure NP where
  bfr : Nat
  bfl : Nat
  by_ : Nat
  bto : Nat
  bn : Nat
  p : Nat
  l : Nat
  fa : Option Addr
  fc : Nat
  ta : Option Addr
  tn : Nat
  tc : Nat
  ca : Option Addr
  cn : Nat
  cc : Nat
  toa : Option Addr
  toc : Nat
  n : Nat
  f : Fl
  lo : List Int
  hi : List Int
  wB : World
  S : Nat → Prop

def NP.caps (q : NP) : List Value := [.pointer (some ⟨q.bfr, 0, none⟩), .pointer (some ⟨q.bfl, 0, none⟩), .pointer (some ⟨q.by_, 0, none⟩), .pointer (some ⟨q.bto, 0, none⟩), .pointer (some ⟨q.bn, 0, none⟩)]

structure NEnv (q : NP) (W : World) : Prop where
  cfr : W.cell? ⟨q.bfr, 0, none⟩ = some (.slice q.fa q.n q.fc)
  cfl0 : W.cell? ⟨q.bfl, 0, none⟩ = some (.slice q.ta q.tn q.tc)
  cfl1 : W.cell? ⟨q.bfl, 1, none⟩ = some (.slice q.ca q.cn q.cc)
  cy : W.cell? ⟨q.by_, 0, none⟩ = some (.func (.yield q.l) #[] #[])
  cto : W.cell? ⟨q.bto, 0, none⟩ = some (.slice q.toa q.n q.toc)
  cn_ : W.cell? ⟨q.bn, 0, none⟩ = some (.func (.func 91) #[] #[.pointer (some ⟨q.bfr, 0, none⟩), .pointer (some ⟨q.bfl, 0, none⟩), .pointer (some ⟨q.by_, 0, none⟩), .pointer (some ⟨q.bto, 0, none⟩), .pointer (some ⟨q.bn, 0, none⟩)])
  fl : FlAt W q.ta q.tn q.ca q.cn q.f
  ilo : Ints W q.fa q.n q.lo
  ihi : Ints W q.toa q.n q.hi
  pl : q.p < W.heap.size
  base : Only q.S q.wB W

/-- the buffer begins with pre -/
def Buf (q : NP) (W : World) (pre : List Int) : Prop := ∃ rest : List Value, W.heap[q.p]? = some (.cells (pre.map (Value.int .i64) ++ rest).toArray 3 (0, 0)) ∧ pre.length + rest.length = q.n

theorem Buf.ints {q : NP} {W : World} {pre : List Int} (h : Buf q W pre) (hn : q.n ≤ 6) : Ints W (some ⟨q.p, 0, none⟩) pre.length pre := by
  obtain ⟨rest, hb, hl⟩ := h
  refine ⟨rfl, by omega, fun j hj => ⟨_, rfl, (Array.getElem?_eq_some_iff.1 hb).1, ?_⟩⟩
  have e : ((⟨q.p, 0, none⟩ : Addr).add j) = ⟨q.p, j, none⟩ := by
    unfold Addr.add; split
    · subst_vars; rfl
    · simp
  rw [e]
  simp [World.cell?, hb, List.getElem?_append_left, hj]

/-- what holds after the closure has run to its end, or has been stopped -/
def NPost (q : NP) (J : List (List Int) → World → Prop) (Jx : World → Prop) (pre : List Int) (done : List (List Int)) (e : Ending) (W' : World) : Prop :=
  (e = .returned (.bool true) ∧ J done W' ∧ NEnv q W' ∧ Buf q W' pre) ∨ (e = .returned (.bool false) ∧ Jx W')

/-- what the closure is called under -/
structure NHyp (q : NP) (Y : Nat → Prop) (J : List (List Int) → World → Prop) (Jx : World → Prop) (all : List (List Int)) : Prop where
  ok : FlOk q.f
  n1 : 1 ≤ q.n
  nt : q.n = q.f.times.length
  lo0 : ∀ c, c < q.n → 0 ≤ q.lo[c]?.getD 0
  hi1 : ∀ c, c < q.n → q.hi[c]?.getD 0 ≤ ((q.f.times[c]?.getD []).length : Int)
  env : ∀ W W', NEnv q W → Only (fun b => Y b ∨ b = q.p) W W' → NEnv q W'
  yp : ¬ Y q.p
  hJ : ∀ done W W', J done W → Only (fun b => b = q.p) W W' → J done W'
  hJx : ∀ W W', Jx W → Gr W W' → Jx W'
  hY : ∀ done x rest W a c, J done W → NEnv q W → Ints W (some a) q.n x → Is3 W a.block → q.p < a.block → all = done ++ x :: rest → StOk q.f x → worksB q.f x = true →
    YieldAt Fence.wide 0 Try.prog q.l #[.slice (some a) q.n c] W fun e W' => (e = .returned (.bool true) ∧ J (done ++ [x]) W' ∧ Only Y W W') ∨ (e = .returned (.bool false) ∧ Jx W')

def LeafClone (q : NP) (W : World) (pre : List Int) (W' : World) (v : Value) : Prop := ∃ g c, v = .slice (some ⟨g, 0, none⟩) q.n c ∧ W.heap.size ≤ g ∧ Ints W' (some ⟨g, 0, none⟩) q.n pre ∧ Is3 W' g
def LeafOut (q : NP) (J : List (List Int) → World → Prop) (Jx : World → Prop) (pre : List Int) (done : List (List Int)) (W' : World) (v : Value) : Prop :=
  (v = .bool true ∧ J done W' ∧ NEnv q W' ∧ Buf q W' pre) ∨ (v = .bool false ∧ Jx W')

theorem lt_cell {W : World} {p : Addr} {v : Value} (h : W.cell? p = some v) : p.block < W.heap.size := by
  obtain ⟨_, _, _, hb⟩ := cell_block h
  exact (Array.getElem?_eq_some_iff.1 hb).1

set_option maxHeartbeats 400000 in
theorem next_leaf (q : NP) (Y : Nat → Prop) (J : List (List Int) → World → Prop) (Jx : World → Prop) (all : List (List Int)) (H : NHyp q Y J Jx all) (pre : List Int) (done rest : List (List Int)) (W : World)
    (hl : pre.length = q.n) (hst : StOk q.f pre) (hE : NEnv q W) (hB : Buf q W pre) (hJ : J done W) (hall : all = done ++ (enum q.f q.lo q.hi 0 pre ++ rest)) :
    Calls Try.prog 91 #[.slice (some ⟨q.p, 0, none⟩) q.n q.n, .pointer (some ⟨q.bfr, 0, none⟩), .pointer (some ⟨q.bfl, 0, none⟩), .pointer (some ⟨q.by_, 0, none⟩), .pointer (some ⟨q.bto, 0, none⟩), .pointer (some ⟨q.bn, 0, none⟩)] W
      (NPost q J Jx pre (done ++ enum q.f q.lo q.hi 0 pre)) := by
  have hn6 : q.n ≤ 6 := by have := H.ok.n6; have := H.nt; omega
  have hcfr := hE.cfr
  have hints : Ints W (some ⟨q.p, 0, none⟩) q.n pre := by have := hB.ints hn6; rw [hl] at this; exact this
  cases hb : worksB q.f pre with
  | false =>
    have henum : Hid (enum q.f q.lo q.hi 0 pre = []) := Lib.hid (by simp [enum, hb])
    go_enter Try.func91, Try.ntmps91
    go_wp2_with fail
    refine (wpIn_wide (n := 0)).1 ?_
    refine region_inv (F := Fence.wide) (by kernel_rfl) (by rfl) (by decide) (fun _ => trivial)
      (fun done u W' => Gr W W' ∧ Vl done u 0 (· = .agg #[.slice q.ta q.tn q.tc, .slice q.ca q.cn q.cc]) ∧ Vl done u 1 (· = .slice (some ⟨q.p, 0, none⟩) q.n q.n) ∧ Vl done u 2 (· = .bool false) ∧ Vl done u 3 (· = .bool true) ∧ Vl done u 4 (· = .bool true) ∧ Vl done u 9 (· = .bool true) ∧ Vl done u 10 (· = .bool true))
      (fun u => ⟨Gr.drew W, Vl.start, Vl.start, Vl.start, Vl.start, Vl.start, Vl.start, Vl.start⟩) ⟨?_, ?_, ?_, ?_, ?_, ?_, ?_, ?_, ?_, ?_, ?_, trivial⟩ ?_
    · rintro u done W' hd hanc - ⟨hg, r0, r1, r2, r3, r4, r9, r10⟩
      have c0 := (hg.cell (p := ⟨q.bfl, 0, none⟩) (lt_cell hE.cfl0)).trans hE.cfl0
      have c1 := (hg.cell (p := ⟨q.bfl, 1, none⟩) (lt_cell hE.cfl1)).trans hE.cfl1
      refine op_plain (ro := none) rfl (fun c h => by cases h) fun K hK => ?_
      simp only [fillL, List.setIfInBounds_toArray, List.set_cons_zero, List.set_cons_succ, Nat.zero_add, Nat.reduceAdd] at hK ⊢
      go_simp
      exact hK _ _ ⟨hg, Vl.new rfl, r1.keep (by decide), r2.keep (by decide), r3.keep (by decide), r4.keep (by decide), r9.keep (by decide), r10.keep (by decide)⟩
    · rintro u done W' hd hanc - ⟨hg, r0, r1, r2, r3, r4, r9, r10⟩
      refine op_plain (ro := none) rfl (fun c h => by cases h) fun K hK => ?_
      simp only [fillL, List.setIfInBounds_toArray, List.set_cons_zero, List.set_cons_succ, Nat.zero_add, Nat.reduceAdd] at hK ⊢
      go_simp
      exact hK _ _ ⟨hg, r0.keep (by decide), Vl.new rfl, r2.keep (by decide), r3.keep (by decide), r4.keep (by decide), r9.keep (by decide), r10.keep (by decide)⟩
    · rintro u done W' hd hanc - ⟨hg, r0, r1, r2, r3, r4, r9, r10⟩
      have e0 : u 0 = _ := r0 (hanc 0 (mem_of (by kernel_rfl)))
      have e1 : u 1 = _ := r1 (hanc 1 (mem_of (by kernel_rfl)))
      refine op_plain (ro := none) rfl (fun c h => by cases h) fun K hK => ?_
      simp only [fillL, List.setIfInBounds_toArray, List.set_cons_zero, List.set_cons_succ, Nat.zero_add, Nat.reduceAdd, e0, e1] at hK ⊢
      have hcon := works_any q.ta q.ca (some ⟨q.p, 0, none⟩) q.tn q.tc q.cn q.cc q.n q.n q.f pre W' (hE.fl.gr hg) H.ok ((hints).gr hg) hst
      rw [hb] at hcon
      have HCON := Lib.hid hcon
      clear hcon
      go_simp
      refine HCON.out.mono ?_
      rintro e w2 ⟨rfl, hg2⟩
      exact hK _ _ ⟨hg.trans hg2, r0.keep (by decide), r1.keep (by decide), Vl.new rfl, r3.keep (by decide), r4.keep (by decide), r9.keep (by decide), r10.keep (by decide)⟩
    · rintro u done W' hd hanc - ⟨hg, r0, r1, r2, r3, r4, r9, r10⟩
      have e2 : u 2 = _ := r2 (hanc 2 (mem_of (by kernel_rfl)))
      refine op_plain (ro := none) rfl (fun c h => by cases h) fun K hK => ?_
      simp only [fillL, List.setIfInBounds_toArray, List.set_cons_zero, List.set_cons_succ, Nat.zero_add, Nat.reduceAdd, e2] at hK ⊢
      go_simp
      exact hK _ _ ⟨hg, r0.keep (by decide), r1.keep (by decide), r2.keep (by decide), Vl.new rfl, r4.keep (by decide), r9.keep (by decide), r10.keep (by decide)⟩
    · rintro u done W' hd hanc - ⟨hg, r0, r1, r2, r3, r4, r9, r10⟩
      have e3 : u 3 = _ := r3 (hanc 3 (mem_of (by kernel_rfl)))
      refine op_plain (ro := none) rfl (fun c h => by cases h) fun K hK => ?_
      simp only [fillL, List.setIfInBounds_toArray, List.set_cons_zero, List.set_cons_succ, Nat.zero_add, Nat.reduceAdd, e3] at hK ⊢
      go_simp
      exact hK _ _ ⟨hg, r0.keep (by decide), r1.keep (by decide), r2.keep (by decide), r3.keep (by decide), Vl.new rfl, r9.keep (by decide), r10.keep (by decide)⟩
    · intro u done W' hd hanc _ hR
      have e4 : u 4 = _ := hR.2.2.2.2.2.1 (hanc 4 (mem_of (by kernel_rfl)))
      with_reducible refine op_skip 4 false e4 rfl ?_ ?_ rfl ?_
      · decide
      · rfl
      · obtain ⟨hg, r0, r1, r2, r3, r4, r9, r10⟩ := hR
        exact ⟨hg, r0.keep (by decide), r1.keep (by decide), r2.keep (by decide), r3.keep (by decide), r4.keep (by decide), r9.keep (by decide), r10.keep (by decide)⟩
    · intro u done W' hd hanc _ hR
      have e4 : u 4 = _ := hR.2.2.2.2.2.1 (hanc 4 (mem_of (by kernel_rfl)))
      with_reducible refine op_skip 4 false e4 rfl ?_ ?_ rfl ?_
      · decide
      · rfl
      · obtain ⟨hg, r0, r1, r2, r3, r4, r9, r10⟩ := hR
        exact ⟨hg, r0.keep (by decide), r1.keep (by decide), r2.keep (by decide), r3.keep (by decide), r4.keep (by decide), r9.keep (by decide), r10.keep (by decide)⟩
    · intro u done W' hd hanc _ hR
      have e4 : u 4 = _ := hR.2.2.2.2.2.1 (hanc 4 (mem_of (by kernel_rfl)))
      with_reducible refine op_skip 4 false e4 rfl ?_ ?_ rfl ?_
      · decide
      · rfl
      · obtain ⟨hg, r0, r1, r2, r3, r4, r9, r10⟩ := hR
        exact ⟨hg, r0.keep (by decide), r1.keep (by decide), r2.keep (by decide), r3.keep (by decide), r4.keep (by decide), r9.keep (by decide), r10.keep (by decide)⟩
    · intro u done W' hd hanc _ hR
      have e4 : u 4 = _ := hR.2.2.2.2.2.1 (hanc 4 (mem_of (by kernel_rfl)))
      with_reducible refine op_skip 4 false e4 rfl ?_ ?_ rfl ?_
      · decide
      · rfl
      · obtain ⟨hg, r0, r1, r2, r3, r4, r9, r10⟩ := hR
        exact ⟨hg, r0.keep (by decide), r1.keep (by decide), r2.keep (by decide), r3.keep (by decide), r4.keep (by decide), r9.keep (by decide), r10.keep (by decide)⟩
    · rintro u done W' hd hanc - ⟨hg, r0, r1, r2, r3, r4, r9, r10⟩
      have e4 : u 4 = _ := r4 (hanc 4 (mem_of (by kernel_rfl)))
      refine op_plain (ro := none) rfl (fun c h => by cases h) fun K hK => ?_
      simp only [fillL, List.setIfInBounds_toArray, List.set_cons_zero, List.set_cons_succ, Nat.zero_add, Nat.reduceAdd, e4] at hK ⊢
      go_simp
      exact hK _ _ ⟨hg, r0.keep (by decide), r1.keep (by decide), r2.keep (by decide), r3.keep (by decide), r4.keep (by decide), Vl.new rfl, r10.keep (by decide)⟩
    · rintro u done W' hd hanc - ⟨hg, r0, r1, r2, r3, r4, r9, r10⟩
      have e9 : u 9 = _ := r9 (hanc 9 (mem_of (by kernel_rfl)))
      refine op_plain (ro := none) rfl (fun c h => by cases h) fun K hK => ?_
      simp only [fillL, List.setIfInBounds_toArray, List.set_cons_zero, List.set_cons_succ, Nat.zero_add, Nat.reduceAdd, e9] at hK ⊢
      go_simp
      exact hK _ _ ⟨hg, r0.keep (by decide), r1.keep (by decide), r2.keep (by decide), r3.keep (by decide), r4.keep (by decide), r9.keep (by decide), Vl.new rfl⟩
    · rintro u W' ⟨done, hdn, hg, r0, r1, r2, r3, r4, r9, r10⟩
      have e10 : u 10 = _ := r10 (hdn 10 (by decide))
      simp only [fillL, List.setIfInBounds_toArray, List.set_cons_zero, List.set_cons_succ]
      go_wp2
      go_ret
      refine .inl ⟨by simp [e10], ?_⟩
      rw [henum.out, List.append_nil]
      obtain ⟨rst, hbk, hrl⟩ := hB
      exact ⟨H.hJ _ _ _ hJ (hg.only _), H.env _ _ hE (hg.only _), rst, (hg.below.block _ hE.pl).trans hbk, hrl⟩
  | true =>
    have henum : Hid (enum q.f q.lo q.hi 0 pre = [pre]) := Lib.hid (by simp [enum, hb])
    go_enter Try.func91, Try.ntmps91
    go_wp2_with fail
    refine (wpIn_wide (n := 0)).1 ?_
    refine region_inv (F := Fence.wide) (by kernel_rfl) (by rfl) (by decide) (fun _ => trivial)
      (fun done' u W' => Vl done' u 0 (· = .agg #[.slice q.ta q.tn q.tc, .slice q.ca q.cn q.cc]) ∧ Vl done' u 1 (· = .slice (some ⟨q.p, 0, none⟩) q.n q.n) ∧ Vl done' u 2 (· = .bool true) ∧ Vl done' u 3 (· = .bool false) ∧ Vl done' u 4 (· = .bool false) ∧ Vl done' u 5 (· = .func (.yield q.l) #[] #[]) ∧ Vl done' u 6 (· = .slice (some ⟨q.p, 0, none⟩) q.n q.n) ∧
        (done' 8 = false → Gr W W' ∧ Vl done' u 7 (LeafClone q W pre W')) ∧ Vl done' u 8 (LeafOut q J Jx pre (done ++ [pre]) W') ∧ Vl done' u 9 (LeafOut q J Jx pre (done ++ [pre]) W') ∧ Vl done' u 10 (LeafOut q J Jx pre (done ++ [pre]) W'))
      (fun u => ⟨Vl.start, Vl.start, Vl.start, Vl.start, Vl.start, Vl.start, Vl.start, fun _ => ⟨Gr.drew W, Vl.start⟩, Vl.start, Vl.start, Vl.start⟩) ⟨?_, ?_, ?_, ?_, ?_, ?_, ?_, ?_, ?_, ?_, ?_, trivial⟩ ?_
    · rintro u done' W' hd hanc hclo ⟨r0, r1, r2, r3, r4, r5, r6, r7, r8, r9, r10⟩
      have h8 : done' 8 = false := by
        cases h : done' 8 with
        | false => rfl
        | true => rw [hclo 8 _ rfl h 0 (mem_of (by kernel_rfl))] at hd; cases hd
      obtain ⟨hg, r7'⟩ := r7 h8
      have c0 := (hg.cell (p := ⟨q.bfl, 0, none⟩) (lt_cell hE.cfl0)).trans hE.cfl0
      have c1 := (hg.cell (p := ⟨q.bfl, 1, none⟩) (lt_cell hE.cfl1)).trans hE.cfl1
      refine op_plain (ro := none) rfl (fun c h => by cases h) fun K hK => ?_
      simp only [fillL, List.setIfInBounds_toArray, List.set_cons_zero, List.set_cons_succ, Nat.zero_add, Nat.reduceAdd] at hK ⊢
      go_simp
      exact hK _ _ ⟨Vl.new rfl, r1.keep (by decide), r2.keep (by decide), r3.keep (by decide), r4.keep (by decide), r5.keep (by decide), r6.keep (by decide), fun _ => ⟨hg, r7'.keep (by decide)⟩, r8.keep (by decide), r9.keep (by decide), r10.keep (by decide)⟩
    · rintro u done' W' hd hanc hclo ⟨r0, r1, r2, r3, r4, r5, r6, r7, r8, r9, r10⟩
      have h8 : done' 8 = false := by
        cases h : done' 8 with
        | false => rfl
        | true => rw [hclo 8 _ rfl h 1 (mem_of (by kernel_rfl))] at hd; cases hd
      obtain ⟨hg, r7'⟩ := r7 h8
      refine op_plain (ro := none) rfl (fun c h => by cases h) fun K hK => ?_
      simp only [fillL, List.setIfInBounds_toArray, List.set_cons_zero, List.set_cons_succ, Nat.zero_add, Nat.reduceAdd] at hK ⊢
      go_simp
      exact hK _ _ ⟨r0.keep (by decide), Vl.new rfl, r2.keep (by decide), r3.keep (by decide), r4.keep (by decide), r5.keep (by decide), r6.keep (by decide), fun _ => ⟨hg, r7'.keep (by decide)⟩, r8.keep (by decide), r9.keep (by decide), r10.keep (by decide)⟩
    · rintro u done' W' hd hanc hclo ⟨r0, r1, r2, r3, r4, r5, r6, r7, r8, r9, r10⟩
      have h8 : done' 8 = false := by
        cases h : done' 8 with
        | false => rfl
        | true => rw [hclo 8 _ rfl h 2 (mem_of (by kernel_rfl))] at hd; cases hd
      obtain ⟨hg, r7'⟩ := r7 h8
      have e0 : u 0 = _ := r0 (hanc 0 (mem_of (by kernel_rfl)))
      have e1 : u 1 = _ := r1 (hanc 1 (mem_of (by kernel_rfl)))
      refine op_plain (ro := none) rfl (fun c h => by cases h) fun K hK => ?_
      simp only [fillL, List.setIfInBounds_toArray, List.set_cons_zero, List.set_cons_succ, Nat.zero_add, Nat.reduceAdd, e0, e1] at hK ⊢
      have hcon := works_any q.ta q.ca (some ⟨q.p, 0, none⟩) q.tn q.tc q.cn q.cc q.n q.n q.f pre W' (hE.fl.gr hg) H.ok ((hints).gr hg) hst
      rw [hb] at hcon
      have HCON := Lib.hid hcon
      clear hcon
      go_simp
      refine HCON.out.mono ?_
      rintro e w2 ⟨rfl, hg2⟩
      have h7 : done' 7 = false := by
        cases h : done' 7 with
        | false => rfl
        | true => rw [hclo 7 _ rfl h 2 (mem_of (by kernel_rfl))] at hd; cases hd
      have h8s : Vl done' u 8 (LeafOut q J Jx pre (done ++ [pre]) w2) := fun h => by rw [h8] at h; cases h
      have h9s : Vl done' u 9 (LeafOut q J Jx pre (done ++ [pre]) w2) := fun h => by have := hclo 9 _ rfl h 8 (mem_of (by kernel_rfl)); rw [h8] at this; cases this
      have h10s : Vl done' u 10 (LeafOut q J Jx pre (done ++ [pre]) w2) := fun h => by have := hclo 10 _ rfl h 8 (mem_of (by kernel_rfl)); rw [h8] at this; cases this
      exact hK _ _ ⟨r0.keep (by decide), r1.keep (by decide), Vl.new rfl, r3.keep (by decide), r4.keep (by decide), r5.keep (by decide), r6.keep (by decide), fun _ => ⟨hg.trans hg2, Vl.keep (fun h => by rw [h7] at h; cases h) (by decide)⟩, h8s.keep (by decide), h9s.keep (by decide), h10s.keep (by decide)⟩
    · rintro u done' W' hd hanc hclo ⟨r0, r1, r2, r3, r4, r5, r6, r7, r8, r9, r10⟩
      have h8 : done' 8 = false := by
        cases h : done' 8 with
        | false => rfl
        | true => rw [hclo 8 _ rfl h 3 (mem_of (by kernel_rfl))] at hd; cases hd
      obtain ⟨hg, r7'⟩ := r7 h8
      have e2 : u 2 = _ := r2 (hanc 2 (mem_of (by kernel_rfl)))
      refine op_plain (ro := none) rfl (fun c h => by cases h) fun K hK => ?_
      simp only [fillL, List.setIfInBounds_toArray, List.set_cons_zero, List.set_cons_succ, Nat.zero_add, Nat.reduceAdd, e2] at hK ⊢
      go_simp
      exact hK _ _ ⟨r0.keep (by decide), r1.keep (by decide), r2.keep (by decide), Vl.new rfl, r4.keep (by decide), r5.keep (by decide), r6.keep (by decide), fun _ => ⟨hg, r7'.keep (by decide)⟩, r8.keep (by decide), r9.keep (by decide), r10.keep (by decide)⟩
    · rintro u done' W' hd hanc hclo ⟨r0, r1, r2, r3, r4, r5, r6, r7, r8, r9, r10⟩
      have h8 : done' 8 = false := by
        cases h : done' 8 with
        | false => rfl
        | true => rw [hclo 8 _ rfl h 4 (mem_of (by kernel_rfl))] at hd; cases hd
      obtain ⟨hg, r7'⟩ := r7 h8
      have e3 : u 3 = _ := r3 (hanc 3 (mem_of (by kernel_rfl)))
      refine op_plain (ro := none) rfl (fun c h => by cases h) fun K hK => ?_
      simp only [fillL, List.setIfInBounds_toArray, List.set_cons_zero, List.set_cons_succ, Nat.zero_add, Nat.reduceAdd, e3] at hK ⊢
      go_simp
      exact hK _ _ ⟨r0.keep (by decide), r1.keep (by decide), r2.keep (by decide), r3.keep (by decide), Vl.new rfl, r5.keep (by decide), r6.keep (by decide), fun _ => ⟨hg, r7'.keep (by decide)⟩, r8.keep (by decide), r9.keep (by decide), r10.keep (by decide)⟩
    · intro u done' W' hd hanc hclo hR
      have e4 : u 4 = _ := hR.2.2.2.2.1 (hanc 4 (mem_of (by kernel_rfl)))
      with_reducible refine op_meetIn 4 false e4 ?_ ?_ ?_ ?_
      · decide
      · rfl
      · rfl
      refine op_in (ro := none) ?_ ?_
      · intro c h; cases h
      intro K hK
      have r0 := hR.1
      have r1 := hR.2.1
      have r2 := hR.2.2.1
      have r3 := hR.2.2.2.1
      have r4 := hR.2.2.2.2.1
      have r5 := hR.2.2.2.2.2.1
      have r6 := hR.2.2.2.2.2.2.1
      have r7 := hR.2.2.2.2.2.2.2.1
      have r8 := hR.2.2.2.2.2.2.2.2.1
      have r9 := hR.2.2.2.2.2.2.2.2.2.1
      have r10 := hR.2.2.2.2.2.2.2.2.2.2
      have h8 : done' 8 = false := by
        cases h : done' 8 with
        | false => rfl
        | true => rw [hclo 8 _ rfl h 5 (mem_of (by kernel_rfl))] at hd; cases hd
      have hg := (r7 h8).1
      have r7' := (r7 h8).2
      have cy := (hg.cell (p := ⟨q.by_, 0, none⟩) (lt_cell hE.cy)).trans hE.cy
      simp only [fillL, List.setIfInBounds_toArray, List.set_cons_zero, List.set_cons_succ, Nat.zero_add, Nat.reduceAdd, e4] at hK ⊢
      go_simp
      exact hK _ _ ⟨r0.keep (by decide), r1.keep (by decide), r2.keep (by decide), r3.keep (by decide), r4.keep (by decide), Vl.new rfl, r6.keep (by decide), fun _ => ⟨hg, r7'.keep (by decide)⟩, r8.keep (by decide), r9.keep (by decide), r10.keep (by decide)⟩
    · intro u done' W' hd hanc hclo hR
      have e4 : u 4 = _ := hR.2.2.2.2.1 (hanc 4 (mem_of (by kernel_rfl)))
      with_reducible refine op_meetIn 4 false e4 ?_ ?_ ?_ ?_
      · decide
      · rfl
      · rfl
      refine op_in (ro := none) ?_ ?_
      · intro c h; cases h
      intro K hK
      have r0 := hR.1
      have r1 := hR.2.1
      have r2 := hR.2.2.1
      have r3 := hR.2.2.2.1
      have r4 := hR.2.2.2.2.1
      have r5 := hR.2.2.2.2.2.1
      have r6 := hR.2.2.2.2.2.2.1
      have r7 := hR.2.2.2.2.2.2.2.1
      have r8 := hR.2.2.2.2.2.2.2.2.1
      have r9 := hR.2.2.2.2.2.2.2.2.2.1
      have r10 := hR.2.2.2.2.2.2.2.2.2.2
      have h8 : done' 8 = false := by
        cases h : done' 8 with
        | false => rfl
        | true => rw [hclo 8 _ rfl h 6 (mem_of (by kernel_rfl))] at hd; cases hd
      have hg := (r7 h8).1
      have r7' := (r7 h8).2
      simp only [fillL, List.setIfInBounds_toArray, List.set_cons_zero, List.set_cons_succ, Nat.zero_add, Nat.reduceAdd, e4] at hK ⊢
      go_simp
      exact hK _ _ ⟨r0.keep (by decide), r1.keep (by decide), r2.keep (by decide), r3.keep (by decide), r4.keep (by decide), r5.keep (by decide), Vl.new rfl, fun _ => ⟨hg, r7'.keep (by decide)⟩, r8.keep (by decide), r9.keep (by decide), r10.keep (by decide)⟩
    · intro u done' W' hd hanc hclo hR
      have e4 : u 4 = _ := hR.2.2.2.2.1 (hanc 4 (mem_of (by kernel_rfl)))
      with_reducible refine op_meetIn 4 false e4 ?_ ?_ ?_ ?_
      · decide
      · rfl
      · rfl
      refine op_in (ro := none) ?_ ?_
      · intro c h; cases h
      intro K hK
      have r0 := hR.1
      have r1 := hR.2.1
      have r2 := hR.2.2.1
      have r3 := hR.2.2.2.1
      have r4 := hR.2.2.2.2.1
      have r5 := hR.2.2.2.2.2.1
      have r6 := hR.2.2.2.2.2.2.1
      have r7 := hR.2.2.2.2.2.2.2.1
      have r8 := hR.2.2.2.2.2.2.2.2.1
      have r9 := hR.2.2.2.2.2.2.2.2.2.1
      have r10 := hR.2.2.2.2.2.2.2.2.2.2
      have h8 : done' 8 = false := by
        cases h : done' 8 with
        | false => rfl
        | true => rw [hclo 8 _ rfl h 7 (mem_of (by kernel_rfl))] at hd; cases hd
      have hg := (r7 h8).1
      have r7' := (r7 h8).2
      have e6 : u 6 = _ := r6 (hanc 6 (mem_of (by kernel_rfl)))
      simp only [fillL, List.setIfInBounds_toArray, List.set_cons_zero, List.set_cons_succ, Nat.zero_add, Nat.reduceAdd, e4, e6] at hK ⊢
      have hcon := clone_any (some ⟨q.p, 0, none⟩) q.n q.n pre W' (hints.gr hg) H.n1 (by omega)
      have HCON := Lib.hid hcon
      clear hcon
      go_simp
      refine HCON.out.mono ?_
      rintro e w2 ⟨g, c, rfl, hge, hi2, hg2, his3⟩
      rw [hl] at hi2 ⊢
      have h8s : Vl done' u 8 (LeafOut q J Jx pre (done ++ [pre]) w2) := fun h => by rw [h8] at h; cases h
      have h9s : Vl done' u 9 (LeafOut q J Jx pre (done ++ [pre]) w2) := fun h => by have := hclo 9 _ rfl h 8 (mem_of (by kernel_rfl)); rw [h8] at this; cases this
      have h10s : Vl done' u 10 (LeafOut q J Jx pre (done ++ [pre]) w2) := fun h => by have := hclo 10 _ rfl h 8 (mem_of (by kernel_rfl)); rw [h8] at this; cases this
      exact hK _ _ ⟨r0.keep (by decide), r1.keep (by decide), r2.keep (by decide), r3.keep (by decide), r4.keep (by decide), r5.keep (by decide), r6.keep (by decide), fun _ => ⟨hg.trans hg2, Vl.new ⟨g, c, rfl, Nat.le_trans hg.size hge, hi2, his3⟩⟩, h8s.keep (by decide), h9s.keep (by decide), h10s.keep (by decide)⟩
    · intro u done' W' hd hanc hclo hR
      have e4 : u 4 = _ := hR.2.2.2.2.1 (hanc 4 (mem_of (by kernel_rfl)))
      with_reducible refine op_meetIn 4 false e4 ?_ ?_ rfl ?_
      · decide
      · rfl
      have r0 := hR.1
      have r1 := hR.2.1
      have r2 := hR.2.2.1
      have r3 := hR.2.2.2.1
      have r4 := hR.2.2.2.2.1
      have r5 := hR.2.2.2.2.2.1
      have r6 := hR.2.2.2.2.2.2.1
      have r7 := hR.2.2.2.2.2.2.2.1
      have r8 := hR.2.2.2.2.2.2.2.2.1
      have r9 := hR.2.2.2.2.2.2.2.2.2.1
      have r10 := hR.2.2.2.2.2.2.2.2.2.2
      have h8 : done' 8 = false := hd
      have hg := (r7 h8).1
      have r7' := (r7 h8).2
      have e5 : u 5 = _ := r5 (hanc 5 (mem_of (by kernel_rfl)))
      refine Exists.elim (r7' (hanc 7 (mem_of (by kernel_rfl)))) fun g hg1 => ?_
      refine Exists.elim hg1 fun c hg2 => ?_
      have e7 := hg2.1
      have hge := hg2.2.1
      have hi7 := hg2.2.2.1
      have ht7 := hg2.2.2.2
      have hyd := H.hY done pre rest W' ⟨g, 0, none⟩ c (H.hJ _ _ _ hJ (hg.only _)) (H.env _ _ hE (hg.only _)) hi7 ht7 (Nat.lt_of_lt_of_le hE.pl hge) (by rw [hall, henum.out]; rfl) hst hb
      have hbuf : W'.heap[q.p]? = W.heap[q.p]? := hg.below.block _ hE.pl
      refine op_yield (ro := none) rfl (v := .slice (some ⟨g, 0, none⟩) q.n c) ?_ ?_ hyd ?_ ?_
      · simp only [fillL, List.setIfInBounds_toArray, List.set_cons_zero, List.set_cons_succ, Nat.zero_add, Nat.reduceAdd, e4, e5, e7]; rfl
      · simp only [fillL, List.setIfInBounds_toArray, List.set_cons_zero, List.set_cons_succ, Nat.zero_add, Nat.reduceAdd, e4, e5, e7]; rfl
      · rintro e W2 (⟨rfl, _⟩ | ⟨rfl, _⟩) <;> exact ⟨_, rfl⟩
      · rintro v' W2 hv
        refine ⟨v', rfl, ?_⟩
        have hout : LeafOut q J Jx pre (done ++ [pre]) W2 v' := by
          rcases hv with ⟨h, hJ2, hO2⟩ | ⟨h, hx2⟩
          · injection h with h
            subst h
            obtain ⟨rst, hbk, hrl⟩ := hB
            exact .inl ⟨rfl, hJ2, H.env _ _ (H.env _ _ hE (hg.only _)) (hO2.mono (fun _ _ h => .inl h)), rst, (hO2.block _ (Nat.lt_of_lt_of_le hE.pl hg.size) H.yp).trans (hbuf.trans hbk), hrl⟩
          · injection h with h
            exact .inr ⟨h, hx2⟩
        have h9s : Vl done' u 9 (LeafOut q J Jx pre (done ++ [pre]) W2) := fun h => by have := hclo 9 _ rfl h 8 (mem_of (by kernel_rfl)); rw [h8] at this; cases this
        have h10s : Vl done' u 10 (LeafOut q J Jx pre (done ++ [pre]) W2) := fun h => by have := hclo 10 _ rfl h 8 (mem_of (by kernel_rfl)); rw [h8] at this; cases this
        exact ⟨r0.keep (by decide), r1.keep (by decide), r2.keep (by decide), r3.keep (by decide), r4.keep (by decide), r5.keep (by decide), r6.keep (by decide), (fun h => by rw [upd_self] at h; cases h), Vl.new hout, h9s.keep (by decide), h10s.keep (by decide)⟩
    · rintro u done' W' hd hanc hclo ⟨r0, r1, r2, r3, r4, r5, r6, r7, r8, r9, r10⟩
      obtain ⟨b, e8, hO⟩ : ∃ b : Bool, u 8 = .bool b ∧ LeafOut q J Jx pre (done ++ [pre]) W' (.bool b) := by
        have := r8 (hanc 8 (mem_of (by kernel_rfl)))
        rcases this with ⟨h, h'⟩ | ⟨h, h'⟩
        · exact ⟨true, h, .inl ⟨rfl, h'⟩⟩
        · exact ⟨false, h, .inr ⟨rfl, h'⟩⟩
      have e4 : u 4 = _ := r4 (hanc 4 (mem_of (by kernel_rfl)))
      refine op_plain (ro := none) rfl (fun c h => by cases h) fun K hK => ?_
      simp only [fillL, List.setIfInBounds_toArray, List.set_cons_zero, List.set_cons_succ, Nat.zero_add, Nat.reduceAdd, e4, e8] at hK ⊢
      go_simp
      exact hK _ _ ⟨r0.keep (by decide), r1.keep (by decide), r2.keep (by decide), r3.keep (by decide), r4.keep (by decide), r5.keep (by decide), r6.keep (by decide), (fun h => by rw [upd_ne (by decide), hanc 8 (mem_of (by kernel_rfl))] at h; cases h), r8.keep (by decide), Vl.new hO, r10.keep (by decide)⟩
    · rintro u done' W' hd hanc hclo ⟨r0, r1, r2, r3, r4, r5, r6, r7, r8, r9, r10⟩
      obtain ⟨b, e9, hO⟩ : ∃ b : Bool, u 9 = .bool b ∧ LeafOut q J Jx pre (done ++ [pre]) W' (.bool b) := by
        have := r9 (hanc 9 (mem_of (by kernel_rfl)))
        rcases this with ⟨h, h'⟩ | ⟨h, h'⟩
        · exact ⟨true, h, .inl ⟨rfl, h'⟩⟩
        · exact ⟨false, h, .inr ⟨rfl, h'⟩⟩
      refine op_plain (ro := none) rfl (fun c h => by cases h) fun K hK => ?_
      simp only [fillL, List.setIfInBounds_toArray, List.set_cons_zero, List.set_cons_succ, Nat.zero_add, Nat.reduceAdd, e9] at hK ⊢
      go_simp
      exact hK _ _ ⟨r0.keep (by decide), r1.keep (by decide), r2.keep (by decide), r3.keep (by decide), r4.keep (by decide), r5.keep (by decide), r6.keep (by decide), (fun h => by rw [upd_ne (by decide), hanc 8 (mem_of (by kernel_rfl))] at h; cases h), r8.keep (by decide), r9.keep (by decide), Vl.new hO⟩
    · rintro u W' ⟨done', hdn, r0, r1, r2, r3, r4, r5, r6, r7, r8, r9, r10⟩
      have h10 := r10 (hdn 10 (by decide))
      simp only [fillL, List.setIfInBounds_toArray, List.set_cons_zero, List.set_cons_succ, Nat.zero_add, Nat.reduceAdd]
      rcases h10 with ⟨h, h'⟩ | ⟨h, h'⟩
      · rw [h]
        go_wp2
        go_ret
        exact .inl ⟨rfl, by rw [henum.out]; exact h'⟩
      · rw [h]
        go_wp2
        go_ret
        exact .inr ⟨rfl, h'⟩
end Go.Proofs.Ytlilojpnhmfnaaa
